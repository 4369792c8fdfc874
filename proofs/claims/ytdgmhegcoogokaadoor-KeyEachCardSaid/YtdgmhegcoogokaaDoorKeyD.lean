/- key.Encode: the walk. -/
import Derived.Test.YtdgmhegcoogokaaDoorKeyC
namespace Go.Proofs.YtdgmhegcoogokaaDoor
open Go.RowKit
set_option linter.unusedVariables false

/-- append of bytes, at a step of a region that draws its order. -/
theorem step_append_b {P : Program} (w : World) {ops : Array Oper} {o : Oper} {a : Act} {K : Act → World → Prop} {Q : Exit → Act → World → Prop} {E : Prop} (hgd : o.guard = none) (s x : Operand) (t : TypeId)
    (ho : o.op = .call { callee := .builtin .append, args := #[s, x], argTypes := #[t, t] })
    (e : TypeId) (ht : P.underlying t = some (.slice e)) (hi : (P.info? e).map (fun i => (i.zero, i.size, i.bytes)) = some (some (.int .u8 0), 1, 1))
    (base : Nat) (A : Option Addr) (n c : Nat) (l : List UInt8) (hs : a.eval s = .slice A n c) (hown : Ob w base e A n c l)
    (B : Option Addr) (m d : Nat) (ys : List UInt8) (hx : a.eval x = .slice B m d) (hr : Rd w B m d ys)
    (hlen : n + m ≤ 2000000) (hbase : base ≤ w.heap.size)
    (h : ∀ A' c' w', Ob w' base e A' (n + m) c' (l ++ ys) → w.grownBy w' (ab A) → (ab A' = ab A ∨ ab A' = some w.heap.size) → K (a.put o.dst (.slice A' (n + m) c')) w') :
    if Region.wanted o (yielded ops a.tmps) = true then Oper.wp P o a w K Q else E := by
  have hw : Region.wanted o (yielded ops a.tmps) = true := by simp [Region.wanted, hgd]
  rw [if_pos hw]
  obtain ⟨i, hi1, hi2, hi3, hi4⟩ : ∃ i, P.info? e = some i ∧ i.zero = some (.int .u8 0) ∧ i.size = 1 ∧ i.bytes = 1 := by
    match h : P.info? e with
    | none => rw [h] at hi; cases hi
    | some i =>
      rw [h] at hi
      simp only [Option.map_some, Option.some.injEq, Prod.mk.injEq] at hi
      exact ⟨i, rfl, hi.1, hi.2.1, hi.2.2⟩
  refine wp_append_v w s x t ho e i (.int .u8 0) 1 1 ht hi1 hi2 hi3 hi4 rfl (by decide) base A n c _ hs hown B m d _ hx hr (cb_one _) ?_ ?_ hbase ?_
  · unfold maxLen
    omega
  · omega
  · intro A' c' w' h2 h3 h4
    exact h A' c' w' (by unfold Ob; rw [List.map_append]; exact h2) h3 h4

theorem keysV_length (xs : List Vl) (hw : ∀ x ∈ xs, x.Wf) (h : ∀ x ∈ xs, x.chk = 0) : (keysV xs).length ≤ 500 * xs.length := by
  induction xs with
  | nil => simp [keysV]
  | cons x xs ih =>
    have h1 := ih (fun y hy => hw y (by simp [hy])) (fun y hy => h y (by simp [hy]))
    have h2 := keyV_length (hw x (by simp)) (h x (by simp))
    unfold keysV at *
    rw [List.flatMap_cons, List.length_append, List.length_cons]
    omega

def EncPost (w : World) (r : List UInt8 × Nat) (e : Ending) (w' : World) : Prop :=
  e = .returned (.tuple #[.string (strL r.1), .int .i64 (r.2 : Int)]) ∧ Below w.heap.size w w'

set_option maxRecDepth 100000 in
set_option maxHeartbeats 4000000 in
theorem Encode_any (A : Option Addr) (n c : Nat) (xs : List Vl) (w : World) (hr : Rv w 4 A n c (vcells xs)) (hwf : ∀ x ∈ xs, x.Wf) (hn : n ≤ 2400) : Calls Tryd.prog 10 #[.slice A n c] w (EncPost w (encV xs)) := by
  have hxn : xs.length = n := by
    have := hr.1
    rw [vcells_length] at this
    omega
  have hcap := hr.2.2.1
  have hle := hr.2.1
  go_enter Tryd.func10, Tryd.ntmps10
  go_wp2
  go_loopw [4, 10] (fun o p wr => ∃ (i : Nat) (A' : Option Addr) (m d : Nat) (out : List UInt8), p = .int .i64 (i : Int) ∧ i ≤ n ∧ o = .slice A' m d ∧ Ob wr w.heap.size 5 A' m d out ∧ out = keysV (xs.take i) ∧ (∀ x ∈ xs.take i, x.chk = 0) ∧ Below w.heap.size w wr)
    (fun o p wr => n - (intOf p).toNat)
  case atStart => exact ⟨0, none, 0, 0, [], rfl, by omega, rfl, Ov.nil _ _ _ _, by simp [keysV], by simp, Below.refl _ w⟩
  case round =>
    obtain ⟨i, A', m, d, out, rfl, hi, rfl, hOb, hout, hall, hB⟩ := hrel
    by_cases hlt : i < n
    · obtain ⟨b, off, rfl, hb, hcell⟩ := hr.2.2.2 (by omega)
      have hx : xs[i] ∈ xs := List.getElem_mem _
      have hca : ∀ j v, j < 4 → (xs[i].cells)[j]? = some v → wr.cell? ⟨b, off + (4 * i + j), none⟩ = some v := fun j v hj hv => (hB.cell (p := ⟨b, _, none⟩) hb).trans (hcell (4 * i + j) v ((vcells_at xs i (by omega) j hj).trans hv))
      have hxw := hwf _ hx
      have htk : xs.take (i + 1) = xs.take i ++ [xs[i]] := by rw [List.take_succ_eq_append_getElem (by omega)]
      generalize hxe : xs[i] = x at *
      obtain ⟨k, vi, vu, vs⟩ := x
      have c0 := hca 0 _ (by omega) rfl
      have c1 := hca 1 _ (by omega) rfl
      have c2 := hca 2 _ (by omega) rfl
      have c3 := hca 3 _ (by omega) rfl
      rw [Nat.add_zero] at c0
      simp only [← Nat.add_assoc, Nat.mul_comm 4 i] at c0 c1 c2 c3
      clear hca
      go_wp2_with fail
      have hbx := VBox.new wr k vi vu (strL vs)
      have hb0 : Below wr.heap.size wr (wr.alloc (.cells #[.int .i64 k, .int .i64 vi, .int .u64 vu, .string (strL vs)] 42)) := (Below.refl _ wr).alloc (Nat.le_refl _) _
      have hlt0 : wr.heap.size < (wr.alloc (.cells #[.int .i64 k, .int .i64 vi, .int .u64 vu, .string (strL vs)] 42)).heap.size := by simp
      refine (Check_any k vi vu (strL vs) _ (by rw [strL_size]; exact hxw.sl)).mono ?_
      rintro e w1 ⟨rfl, hb1⟩
      replace hbx := hbx.below hb1 hlt0
      replace hb0 := gr hb0 hb1
      clear hb1 hlt0 c0 c1 c2 c3 hcell
      have hlt1 := hbx.lt
      have hOb1 := hOb.below hb0
      by_cases hck : chkV k vi vu (strL vs) = 0
      · have hq : ((chkV k vi vu (strL vs) : Int) != 0) = false := by simp [hck]
        go_wp2_with fail
        obtain ⟨hok, hs200⟩ := chk_ok (x := ⟨k, vi, vu, vs⟩) hck
        have hk04 : 0 ≤ k ∧ k ≤ 4 := by
          have := ok_kinds hok
          dsimp only at this
          omega
        have hkm : k % 256 = k := by omega
        have hkw : IntKind.u8.wrap k = k := by rw [IntKind.wrap_u8']; exact hkm
        have hfld := seek_K k hk04.1 hk04.2
        have hlen := keyV_length (x := ⟨k, vi, vu, vs⟩) hxw hck
        have hkl := keysV_length (xs.take i) (fun x hx => hwf x (List.mem_of_mem_take hx)) hall
        rw [← hout, hOb.len, List.length_take] at hkl
        have hlay := fun W => lay_any ⟨k, vi, vu, vs⟩ hxw hck W
        have hent := layF_enters k
        replace hlay := Lib.hid hlay
        clear hq
        generalize hcz : chkV k vi vu (strL vs) = cz at *
        have hbc := hbx.cells
        refine wp_region_noPanic ?_
        refine wp_region_held_drew (S := fun w' => w'.cell? ⟨wr.heap.size, 0, none⟩ = some (.int .i64 k) ∧ w'.cell? ⟨wr.heap.size, 1, none⟩ = some (.int .i64 vi) ∧ w'.cell? ⟨wr.heap.size, 2, none⟩ = some (.int .u64 vu) ∧ w'.cell? ⟨wr.heap.size, 3, none⟩ = some (.string (strL vs))) (by kernel_rfl) hbc (fun hHeld => ?_)
        refine wpAnyH_takeL (i := 0) (v := ?vhy1) rfl (by kernel_rfl) (by kernel_rfl) (by kernel_rfl) (fun _ _ _ h => h) (Or.inl ⟨by rfl, ?hy1⟩) (by assumption) ?rhy1
        case hy1 => ((intro w hSw; (try dsimp only at hSw); go_simp); try with_reducible rfl)
        try simp only [Act.put, List.setIfInBounds_toArray, List.set_cons_zero, List.set_cons_succ]
        refine wpAnyH_takeL (i := 1) (v := ?vhy2) rfl (by kernel_rfl) (by kernel_rfl) (by kernel_rfl) (fun _ _ _ h => h) (Or.inl ⟨by rfl, ?hy2⟩) (by assumption) ?rhy2
        case hy2 => ((intro w hSw; (try dsimp only at hSw); go_simp); try with_reducible rfl)
        try simp only [Act.put, List.setIfInBounds_toArray, List.set_cons_zero, List.set_cons_succ]
        refine wpAnyH_takeL (i := 2) (v := ?vhy3) rfl (by kernel_rfl) (by kernel_rfl) (by kernel_rfl) (fun _ _ _ h => h) (Or.inl ⟨by rfl, ?hy3⟩) (by assumption) ?rhy3
        case hy3 => ((intro w hSw; (try dsimp only at hSw); go_simp); try with_reducible rfl)
        try simp only [Act.put, List.setIfInBounds_toArray, List.set_cons_zero, List.set_cons_succ]
        refine wpAnyH_takeL (i := 3) (v := ?vhy4) rfl (by kernel_rfl) (by kernel_rfl) (by kernel_rfl) (fun _ _ _ h => h) (Or.inl ⟨by rfl, ?hy4⟩) (by assumption) ?rhy4
        case hy4 => ((intro w hSw; (try dsimp only at hSw); go_simp); try with_reducible rfl)
        try simp only [Act.put, List.setIfInBounds_toArray, List.set_cons_zero, List.set_cons_succ]
        refine wpAnyH_takeL (i := 7) (v := ?vhy5) rfl (by kernel_rfl) (by kernel_rfl) (by kernel_rfl) (fun _ _ _ h => h) (Or.inl ⟨by rfl, ?hy5⟩) (by assumption) ?rhy5
        case hy5 => ((intro w hSw; (try dsimp only at hSw); go_simp); try with_reducible rfl)
        try simp only [Act.put, List.setIfInBounds_toArray, List.set_cons_zero, List.set_cons_succ]
        refine wpAnyH_takeL (i := 8) (v := ?vhy6) rfl (by kernel_rfl) (by kernel_rfl) (by kernel_rfl) (fun _ _ _ h => h) (Or.inl ⟨by rfl, ?hy6⟩) (by assumption) ?rhy6
        case hy6 => ((intro w hSw; (try dsimp only at hSw); go_simp); try with_reducible rfl)
        try simp only [Act.put, List.setIfInBounds_toArray, List.set_cons_zero, List.set_cons_succ]
        refine wpAnyH_takeL (i := 11) (v := ?vhy7) rfl (by kernel_rfl) (by kernel_rfl) (by kernel_rfl) (fun _ _ _ h => h) (Or.inl ⟨by rfl, ?hy7⟩) (by assumption) ?rhy7
        case hy7 => ((intro w hSw; (try dsimp only at hSw); go_simp); try with_reducible rfl)
        try simp only [Act.put, List.setIfInBounds_toArray, List.set_cons_zero, List.set_cons_succ]
        refine wpAnyH_ready (rs := [4]) (by kernel_rfl) (by simp) ?_
        refine AllReadyH.consL (i := 4) rfl (fun K hK => ?_) AllReadyH.nil
        go_simp
        have hkc : (([UInt8.ofNat k.toNat].map cb).toArray : Array Value) = #[.int .u8 k] := by
          have : (UInt8.ofNat k.toNat).toNat = k.toNat := by simp; omega
          simp [cb]
          omega
        have hlit := Ob.lit w1 w.heap.size 5 [UInt8.ofNat k.toNat] (by have := (gr hB hb0).size; simp; omega) (by simp [maxLen])
        rw [hkc] at hlit
        have hsA : Below w1.heap.size w1 ((w1.alloc (.cells #[.int .u8 k] 5)).drew) := ((Below.refl _ w1).alloc (Nat.le_refl _) _).drew
        refine hK.out _ _ ((hbx.below hsA hlt1).cells) (fun hHeld => ?_)
        clear hK
        replace hlit : Ob ((w1.alloc (.cells #[.int .u8 k] 5)).drew) w.heap.size 5 (some ⟨w1.heap.size, 0, none⟩) 1 1 [UInt8.ofNat k.toNat] := hlit.below (Below.refl _ _).drew
        replace hOb1 := hOb1.below hsA
        replace hbx := hbx.below hsA hlt1
        replace hb0 := gr hb0 hsA
        try simp only [Act.put, List.setIfInBounds_toArray, List.set_cons_zero, List.set_cons_succ]
        generalize ((w1.alloc (.cells #[.int .u8 k] 5)).drew) = w2 at *
        refine wpAnyH_ready (rs := [5]) (by kernel_rfl) (by simp) ?_
        refine AllReadyH.consL (i := 5) rfl (fun K hK => ?_) AllReadyH.nil
        refine step_append_b _ rfl (.tmp 19) (.tmp 23) 52 rfl 5 Tryd.underlying52 info_u8 w.heap.size A' m d out rfl hOb1 _ 1 1 _ rfl hlit.rd ?_ (gr hB hb0).size ?_
        · omega
        intro A2 d2 w3 hOb2 hg2 hab2
        have hA' : ∀ q, ab A' = some q → w.heap.size ≤ q ∧ q < wr.heap.size := hOb.ab
        have hbl : w.heap.size ≤ wr.heap.size := hB.size
        have hlt2 := hbx.lt
        have hA2n : ∀ q, ab A2 = some q → q ≠ wr.heap.size ∧ q < w3.heap.size := fun q hq => ⟨fun e => by
          rcases hab2 with h | h
          · have := (hA' q (h ▸ hq)).2
            omega
          · rw [h] at hq
            injection hq with hq
            omega, (hOb2.ab q hq).2⟩
        replace hbx : VBox w3 wr.heap.size k vi vu (strL vs) := (hg2.block _ hbx.lt (fun e => by have := hA' _ e.symm; omega)).trans hbx
        have hBw3 : Below w.heap.size w w3 := (gr hB hb0).grown hg2 (gr hB hb0).size (fun q e => (hA' q e).1)
        have hlt3 := hbx.lt
        refine hK.out _ _ hbx.cells (fun hHeld => ?_)
        clear hK hb0 hOb1 hab2 hg2 hlit hsA hOb hHeld
        try simp only [Act.put, List.setIfInBounds_toArray, List.set_cons_zero, List.set_cons_succ]
        have hHeld := hbx.cells
        refine wpAnyH_ready (rs := [6]) (by kernel_rfl) (by simp) ?_
        refine AllReadyH.consL (i := 6) rfl (fun K hK => ?_) AllReadyH.nil
        go_simp
        refine (kkinds_any _).mono ?_
        rintro e w4 ⟨r, rfl, hm4, hb4, hr4⟩
        replace hbx := hbx.below hb4 hlt3
        replace hOb2 := hOb2.below hb4
        replace hBw3 := gr hBw3 hb4
        replace hlt3 := hbx.lt
        refine hK.out _ _ hbx.cells (fun hHeld => ?_)
        clear hK hHeld
        refine wpAnyH_more (S' := fun w' => IMap w' r .i64 KKinds ∧ (w'.cell? ⟨wr.heap.size, 0, none⟩ = some (.int .i64 k) ∧ w'.cell? ⟨wr.heap.size, 1, none⟩ = some (.int .i64 vi) ∧ w'.cell? ⟨wr.heap.size, 2, none⟩ = some (.int .u64 vu) ∧ w'.cell? ⟨wr.heap.size, 3, none⟩ = some (.string (strL vs)))) (fun w' h => h.2) ?_
        have hHeld : IMap w4 r .i64 KKinds ∧ _ := ⟨hm4, hbx.cells⟩
        try simp only [Act.put, List.setIfInBounds_toArray, List.set_cons_zero, List.set_cons_succ]
        have hlk : ∀ w', IMap w' r .i64 KKinds → (Instr.lookup 58 (.map (some r)) (.int .i64 k) false).run Tryd.prog w' = .ok (.agg #[.func (.func (layF k)) #[] #[], .func (.func (readF k)) #[] #[]]) w' := fun w' hm =>
          hm.look1 _ _ _ Tryd.underlying58 Tryd.underlying39 k k.toNat _ hfld
        have hfd : ∀ w' f g, (Instr.field 57 (.agg #[.func f #[] #[], .func g #[] #[]]) 0).run Tryd.prog w' = .ok (.func f #[] #[]) w' := fun w' f g => by
          unfold Instr.field
          simp [Sem.run_bind, run_underlying Tryd.underlying57, go_sem, asAgg]
        refine wpAnyH_takeL (i := 9) (v := ?vhy8) rfl (by kernel_rfl) (by kernel_rfl) (by kernel_rfl) (fun _ _ _ h => h) (Or.inl ⟨by rfl, ?hy8⟩) (by assumption) ?rhy8
        case hy8 => ((intro w hSw; (try dsimp only at hSw); go_simp); try with_reducible rfl)
        try simp only [Act.put, List.setIfInBounds_toArray, List.set_cons_zero, List.set_cons_succ]
        refine wpAnyH_takeL (i := 10) (v := ?vhy9) rfl (by kernel_rfl) (by kernel_rfl) (by kernel_rfl) (fun _ _ _ h => h) (Or.inl ⟨by rfl, ?hy9⟩) (by assumption) ?rhy9
        case hy9 => ((intro w hSw; (try dsimp only at hSw); go_simp); try with_reducible rfl)
        try simp only [Act.put, List.setIfInBounds_toArray, List.set_cons_zero, List.set_cons_succ]
        refine wpAnyH_ready (rs := [12]) (by kernel_rfl) (by simp) ?_
        refine AllReadyH.consL (i := 12) rfl (fun K hK => ?_) AllReadyH.nil
        go_simp
        refine (hlay.out _).mono ?_
        rintro e w5 ⟨A5, m5, d5, rfl, hOb5, hb5⟩
        have hm5 := hm4.below hb5
        replace hOb2 := hOb2.below hb5
        replace hBw3 := gr hBw3 hb5
        replace hbx := hbx.below hb5 hlt3
        have hl5 := hOb5.len
        have hkr : (keyV ⟨k, vi, vu, vs⟩).length = 1 + m5 := by rw [← hl5]; unfold keyV; simp; omega
        refine hK.out _ _ ⟨hm5, hbx.cells⟩ (fun hHeld => ?_)
        clear hK
        try simp only [Act.put, List.setIfInBounds_toArray, List.set_cons_zero, List.set_cons_succ]
        refine wpAnyH_ready (rs := [13]) (by kernel_rfl) (by simp) ?_
        refine AllReadyH.consL (i := 13) rfl (fun K hK => ?_) AllReadyH.nil
        refine step_append_b _ rfl (.tmp 24) (.tmp 31) 52 rfl 5 Tryd.underlying52 info_u8 w.heap.size A2 (m + 1) d2 _ rfl hOb2 _ m5 d5 _ rfl hOb5.rd (by omega) hBw3.size ?_
        intro A6 d6 w6 hOb6 hg6 hab6
        have hA2 : ∀ q, ab A2 = some q → w.heap.size ≤ q := fun q hq => (hOb2.ab q hq).1
        have hBw6 : Below w.heap.size w w6 := hBw3.grown hg6 hBw3.size (fun q e => hA2 q e)
        refine hK.out _ _ ⟨hm5.kept hg6 ?_, ?_⟩ (fun hHeld => ?_)
        · intro e
          have := hA2n r e.symm
          omega
        · exact VBox.cells ((hg6.block _ hbx.lt (fun e => (hA2n _ e.symm).1 rfl)).trans hbx)
        clear hK
        try simp only [Act.put, List.setIfInBounds_toArray, List.set_cons_zero, List.set_cons_succ]
        refine wpAnyH_takeL (i := 14) (v := ?vhy10) rfl (by kernel_rfl) (by kernel_rfl) (by kernel_rfl) (fun _ _ _ h => h) (Or.inl ⟨by rfl, ?hy10⟩) (by assumption) ?rhy10
        case hy10 => ((intro w hSw; (try dsimp only at hSw); go_simp); try with_reducible rfl)
        try simp only [Act.put, List.setIfInBounds_toArray, List.set_cons_zero, List.set_cons_succ]
        refine wpAnyH_done (by kernel_rfl) ?_ _
        refine NoPanic.normal ?_
        clear hHeld hbx hm5 hm4 hlk hfd
        go_wp2
        refine ⟨⟨i + 1, A6, m + 1 + m5, d6, _, rfl, by omega, rfl, hOb6, ?_, ?_, hBw6⟩, by simp [intOf]; omega⟩
        · rw [htk, hout]
          simp [keysV, keyV]
        · intro y hy
          rw [htk] at hy
          rcases List.mem_append.1 hy with hy | hy
          · exact hall y hy
          · rw [List.mem_singleton.1 hy]
            exact hcz.trans hck
      · have hq : ((chkV k vi vu (strL vs) : Int) != 0) = true := by simp [hck]
        have hen : encV xs = ([], chkV k vi vu (strL vs)) := by
          have hf : xs.find? (fun x => decide (x.chk ≠ 0)) = some ⟨k, vi, vu, vs⟩ := by
            rw [← List.take_append_drop i xs, List.find?_append, (by simpa using hall : (xs.take i).find? (fun x => decide (x.chk ≠ 0)) = none)]
            rw [List.drop_eq_getElem_cons (by omega), hxe]
            have : Vl.chk ⟨k, vi, vu, vs⟩ ≠ 0 := hck
            simp [this]
          unfold encV
          rw [hf]
          rfl
        replace hen := Lib.hid hen
        generalize hcz : chkV k vi vu (strL vs) = cz at *
        go_wp2
        go_ret2
        rw [hen.out]
        exact ⟨rfl, gr hB hb0⟩
    · have hti : xs.take i = xs := List.take_of_length_le (by omega)
      rw [hti] at hout hall
      have hf : xs.find? (fun x => decide (x.chk ≠ 0)) = none := by simpa using hall
      have hen : encV xs = if 2000 < m then ([], 3) else (out, 0) := by
        unfold encV
        rw [hf, ← hout, hOb.len]
      have hsc := run_conv_b (P := Tryd.prog) wr 52 9 5 Tryd.underlying52 Tryd.underlying5 Tryd.underlying9 hOb.rd
      by_cases hm : 2000 < m
      · rw [if_pos hm] at hen
        replace hen := Lib.hid hen
        have hd : decide ((2000 : Int) < (m : Int)) = true := by simp; omega
        go_wp2
        go_ret2
        rw [hen.out]
        exact ⟨rfl, hB⟩
      · rw [if_neg hm] at hen
        replace hen := Lib.hid hen
        have hd : decide ((2000 : Int) < (m : Int)) = false := by simp; omega
        go_wp2
        go_ret2
        rw [hen.out, hout]
        exact ⟨rfl, hB⟩
end Go.Proofs.YtdgmhegcoogokaaDoor
