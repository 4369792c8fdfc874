/- Law 06: num, column, of, bytes, does. Law 06: the chapter's rows (works). -/
import Derived.Test.YtagoooclfcbdeaaGreatDoorCvI
namespace Go.Proofs.YtagoooclfcbdeaaGreatDoor
open Go.RowKit
set_option linter.unusedVariables false

theorem lnum_any (x : Int) (w : World) : Calls Tryz.prog 12 #[.int .i64 x] w fun e w' => e = .returned (.int .i64 x) ∧ w = w' := by
  go_enter Tryz.func12, Tryz.ntmps12
  go_wp2
  go_ret
  exact ⟨rfl, rfl⟩
theorem results_cellC {fn : Func} {s : Tmp} (h : fn.results = #[.cell s 24]) (tmps : Array Value) (w : World) {B : Nat} {c : Cl} (hs : tmps.getD s undef = .pointer (some ⟨B, 0, none⟩)) (hV : CBox w B c) :
    (results fn tmps).run Tryz.prog w = .ok c.val w := by
  have hc := hV.cells
  rw [Array.getD_eq_getD_getElem?] at hs
  unfold Cl.val
  simp [results, h, hs, go_sem, hc]
theorem lcolumn_any (t z : Int) (w : World) : Calls Tryz.prog 22 #[.int .i64 t, .int .i64 z] w fun e w' => e = .returned (Cl.val ⟨[97], t, z, false⟩) ∧ Below w.heap.size w w' := by
  go_enter Tryz.func22, Tryz.ntmps22
  go_wp2
  refine bodyPost_ret (results_cellC rfl _ _ rfl (CBox.new w ⟨[97], t, z, false⟩)) rfl ?_
  exact ⟨rfl, gr_alloc (Below.refl _ w) _⟩
theorem lof_any (n : Int) (w : World) : Calls Tryz.prog 24 #[.int .i64 n] w fun e w' => e = .returned (Vl.val ⟨1, n, 0, []⟩) ∧ Below w.heap.size w w' := by
  go_enter Tryz.func24, Tryz.ntmps24
  go_wp2
  refine bodyPost_ret (results_cellV1 rfl _ _ rfl (VBox.new w 1 n 0 (strL []))) rfl ?_
  exact ⟨rfl, gr_alloc (Below.refl _ w) _⟩
theorem lbytes_any (l : List UInt8) (w : World) : Calls Tryz.prog 25 #[.string (strL l)] w fun e w' => e = .returned (Vl.val ⟨4, 0, 0, l⟩) ∧ Below w.heap.size w w' := by
  go_enter Tryz.func25, Tryz.ntmps25
  go_wp2
  refine bodyPost_ret (results_cellV1 rfl _ _ rfl (VBox.new w 4 0 0 (strL l))) rfl ?_
  exact ⟨rfl, gr_alloc (Below.refl _ w) _⟩
/-- What does tells. -/
def doesV (c d : Cl) (x : Vl) : Vl := if (convV c d x).2 = 0 then (convV c d x).1 else ⟨2, 0, ((convV c d x).2 : Int), []⟩
theorem fit_le (c : Cl) (x : Vl) : fitV c x ≤ 200 := by
  have h : x.chk ≤ 3 := by
    unfold Vl.chk chkV
    split
    · split <;> omega
    · omega
  unfold fitV
  repeat' split
  all_goals omega
theorem conv_le (c d : Cl) (x : Vl) : (convV c d x).2 ≤ 200 := by
  have h := fit_le c x
  unfold convV
  repeat' split
  all_goals first | (dsimp only; omega) | skip
set_option maxRecDepth 100000 in
set_option maxHeartbeats 2000000 in
theorem ldoes_any (c d : Cl) (x : Vl) (w : World) (hE : Env w) (hl : c.n.length ≤ 100000) (hl2 : d.n.length ≤ 100000) (hx : x.Wf) : Calls Tryz.prog 23 #[c.val, d.val, x.val] w fun e w' => e = .returned (doesV c d x).val ∧ Below w.heap.size w w' := by
  have hC := fun W h => convert_any c d x W h hl hl2 hx
  have hle := conv_le c d x
  obtain ⟨n, hn⟩ : ∃ n, (convV c d x).2 = n := ⟨_, rfl⟩
  obtain ⟨y, hy⟩ : ∃ y, (convV c d x).1 = y := ⟨_, rfl⟩
  rw [hn, hy] at hC
  rw [hn] at hle
  obtain ⟨R, hR⟩ : ∃ R, doesV c d x = R := ⟨_, rfl⟩
  have hR2 : R = if n = 0 then y else ⟨2, 0, (n : Int), []⟩ := by rw [← hR, doesV, hn, hy]
  rw [hR]
  replace hR2 := Lib.hid hR2
  clear hR hn hy hx
  obtain ⟨hC1, hD1, hX1, hR1, hb1⟩ := four_boxes w c d x
  have hE1 := hE.below hb1
  obtain ⟨cn, ct, cz, cl⟩ := c
  obtain ⟨dn, dt, dz, dl⟩ := d
  obtain ⟨xk, xi, xu, xs⟩ := x
  obtain ⟨yk, yi, yu, ys⟩ := y
  obtain ⟨rk, ri, ru, rs⟩ := R
  simp only [Cl.val, Vl.val, valV] at *
  replace hC := Lib.hid hC
  go_enter Tryz.func23, Tryz.ntmps23
  go_wp2_with fail
  refine (hC.out _ hE1).mono ?_
  rintro e w2 ⟨rfl, g1⟩
  have hlt := hR1.lt
  have hR2' := hR1.below g1 hlt
  have hb2 := gr hb1 g1
  have hR3 := hR2'.below ((Below.refl _ w2).alloc (Nat.le_refl _) (.cells #[.int .i64 yk, .int .i64 yi, .int .u64 yu, .string (strL ys)] 28)) hR2'.lt
  have hb3 := gr_alloc hb2 (.cells #[.int .i64 yk, .int .i64 yi, .int .u64 yu, .string (strL ys)] 28)
  have hY3 := VBox.new w2 yk yi yu (strL ys)
  clear hC hC1 hD1 hX1 hR1 hb1 hE1 hlt g1 hb2 hR2' hE
  have cy := hY3.cells
  have cr := hR3.cells
  have f0 := hR3.frozen 0
  have f1 := hR3.frozen 1
  have f2 := hR3.frozen 2
  have f3 := hR3.frozen 3
  by_cases h0 : n = 0
  · have hR4 := hR2.out
    rw [if_pos h0] at hR4
    subst h0
    replace hR4 := Lib.hid hR4
    clear hR2 hle
    go_wp2_with (go_at_call 12; refine (lnum_any _ _).mono ?_; rintro e w' ⟨rfl, rfl⟩)
    have hP := hR3.put yk yi yu (strL ys)
    refine bodyPost_ret (results_cellV1 rfl _ _ rfl hP) rfl ?_
    have q := hR4.out
    injection q with q1 q2 q3 q4
    subst q1 q2 q3 q4
    exact ⟨rfl, below_put hb3 (by omega) _ _ _ _⟩
  · have hR4 := hR2.out
    rw [if_neg h0] at hR4
    replace hR4 := Lib.hid hR4
    have hd : ((n : Int) != 0) = true := by simp; omega
    have hmax : max 0 (n : Int) = (n : Int) := by omega
    have hwu : (n : Int) % 18446744073709551616 = (n : Int) := by omega
    clear hR2 hle h0
    go_wp2_with (go_at_call 12; refine (lnum_any _ _).mono ?_; rintro e w' ⟨rfl, rfl⟩)
    have hP := hR3.put 2 0 (n : Int) ⟨#[]⟩
    refine bodyPost_ret (results_cellV1 rfl _ _ rfl hP) rfl ?_
    have q := hR4.out
    injection q with q1 q2 q3 q4
    subst q1 q2 q3 q4
    exact ⟨rfl, below_put hb3 (by omega) _ _ _ _⟩
end Go.Proofs.YtagoooclfcbdeaaGreatDoor
namespace Go.Proofs.YtagoooclfcbdeaaGreatDoor
open Go.RowKit Go.Lib
set_option linter.unusedVariables false

theorem ws1 : sureV ⟨[97], 2, 1, false⟩ ⟨[97], 1, 2, false⟩ = (true, 0) := by decide
theorem ws2 : sureV ⟨[97], 2, 1, false⟩ ⟨[97], 1, 1, false⟩ = (false, 0) := by decide
theorem wd1 : doesV ⟨[97], 1, 2, false⟩ ⟨[97], 2, 1, false⟩ ⟨1, 255, 0, []⟩ = ⟨2, 0, 255, []⟩ := by rfl
theorem wd2 : doesV ⟨[97], 1, 2, false⟩ ⟨[97], 2, 1, false⟩ ⟨1, 256, 0, []⟩ = ⟨2, 0, 161, []⟩ := by rfl
theorem wd3 : doesV ⟨[97], 1, 2, false⟩ ⟨[97], 2, 1, false⟩ ⟨1, -1, 0, []⟩ = ⟨2, 0, 161, []⟩ := by rfl
theorem it12 : itoa (-12) = [45, 49, 50] := by
  have : itoa (-((12 : Nat) : Int)) = 45 :: decDigits 12 := itoa_neg 12 (by decide)
  rw [decDigits, dif_neg (by decide), decDigits_one (by decide)] at this
  exact this
theorem it128 : itoa (-128) = [45, 49, 50, 56] := by
  have : itoa (-((128 : Nat) : Int)) = 45 :: decDigits 128 := itoa_neg 128 (by decide)
  rw [decDigits, dif_neg (by decide), decDigits, dif_neg (by decide), decDigits_one (by decide)] at this
  exact this
theorem wt1 : turnV ⟨1, -12, 0, []⟩ 4 = some ⟨4, 0, 0, [45, 49, 50]⟩ := by rw [tv14 rfl, it12]
theorem wt2 : turnV ⟨1, -128, 0, []⟩ 4 = some ⟨4, 0, 0, [45, 49, 50, 56]⟩ := by rw [tv14 rfl, it128]
theorem wc1 : convV ⟨[97], 1, 1, false⟩ ⟨[97], 4, 3, false⟩ ⟨1, -12, 0, []⟩ = (⟨4, 0, 0, [45, 49, 50]⟩, 0) := by
  rw [conv_turn (by decide) (by decide) (by decide) (by decide) (by decide), wt1]
  rfl
theorem wc2 : convV ⟨[97], 1, 1, false⟩ ⟨[97], 4, 3, false⟩ ⟨1, -128, 0, []⟩ = (zeroT, 161) := by
  rw [conv_turn (by decide) (by decide) (by decide) (by decide) (by decide), wt2]
  rfl
theorem wd4 : doesV ⟨[97], 1, 1, false⟩ ⟨[97], 4, 3, false⟩ ⟨1, -12, 0, []⟩ = ⟨4, 0, 0, [45, 49, 50]⟩ := by rw [doesV, wc1]; rfl
theorem wd5 : doesV ⟨[97], 1, 1, false⟩ ⟨[97], 4, 3, false⟩ ⟨1, -128, 0, []⟩ = ⟨2, 0, 161, []⟩ := by rw [doesV, wc2]; rfl
theorem wd6 : doesV ⟨[97], 4, 3, false⟩ ⟨[97], 1, 1, false⟩ ⟨4, 0, 0, [49, 50]⟩ = ⟨1, 12, 0, []⟩ := by rfl
theorem wd7 : doesV ⟨[97], 4, 3, false⟩ ⟨[97], 1, 1, false⟩ ⟨4, 0, 0, [48, 49]⟩ = ⟨2, 0, 161, []⟩ := by rfl
theorem wd8 : doesV ⟨[97], 3, 0, false⟩ ⟨[97], 4, 3, false⟩ ⟨3, 1, 0, []⟩ = ⟨2, 0, 160, []⟩ := by rfl
def Bag (W : World) (B1 B2 B3 B4 B5 B6 : Nat) : Prop := VBox W B1 2 0 161 (strL []) ∧ VBox W B2 2 0 160 (strL []) ∧ CBox W B3 ⟨[97], 1, 2, false⟩ ∧ CBox W B4 ⟨[97], 2, 1, false⟩ ∧ CBox W B5 ⟨[97], 1, 1, false⟩ ∧ CBox W B6 ⟨[97], 4, 3, false⟩
theorem Bag.below {W W' : World} {B1 B2 B3 B4 B5 B6 : Nat} (h : Bag W B1 B2 B3 B4 B5 B6) (hb : Below W.heap.size W W') : Bag W' B1 B2 B3 B4 B5 B6 :=
  ⟨h.1.below hb h.1.lt, h.2.1.below hb h.2.1.lt, h.2.2.1.below hb h.2.2.1.lt, h.2.2.2.1.below hb h.2.2.2.1.lt, h.2.2.2.2.1.below hb h.2.2.2.2.1.lt, h.2.2.2.2.2.below hb h.2.2.2.2.2.lt⟩
def CellsV (W : World) (B : Nat) (u : Int) : Prop := W.cell? ⟨B, 0, none⟩ = some (.int .i64 2) ∧ W.cell? ⟨B, 1, none⟩ = some (.int .i64 0) ∧ W.cell? ⟨B, 2, none⟩ = some (.int .u64 u) ∧ W.cell? ⟨B, 3, none⟩ = some (.string (strL []))
def CellsC (W : World) (B : Nat) (t z : Int) : Prop := W.cell? ⟨B, 0, none⟩ = some (.string (strL [97])) ∧ W.cell? ⟨B, 1, none⟩ = some (.int .i64 t) ∧ W.cell? ⟨B, 2, none⟩ = some (.int .i64 z) ∧ W.cell? ⟨B, 3, none⟩ = some (.bool false)
theorem Bag.cells {W : World} {B1 B2 B3 B4 B5 B6 : Nat} (h : Bag W B1 B2 B3 B4 B5 B6) : CellsV W B1 161 ∧ CellsV W B2 160 ∧ CellsC W B3 1 2 ∧ CellsC W B4 2 1 ∧ CellsC W B5 1 1 ∧ CellsC W B6 4 3 :=
  ⟨h.1.cells, h.2.1.cells, h.2.2.1.cells, h.2.2.2.1.cells, h.2.2.2.2.1.cells, h.2.2.2.2.2.cells⟩
theorem wfv (k i u : Int) (s : List UInt8) (h0 : -9223372036854775808 ≤ i) (h1 : i ≤ 9223372036854775807) (h2 : 0 ≤ u) (h3 : u ≤ 18446744073709551615) (h4 : s.length ≤ maxLen) : Vl.Wf ⟨k, i, u, s⟩ := ⟨h0, h1, h2, h3, h4⟩
set_option maxRecDepth 100000 in
set_option maxHeartbeats 8000000 in
theorem lworks_any (w : World) (hE : Env w) : Calls Tryz.prog 9 #[] w fun e w' => e = .returned (.bool true) ∧ Below w.heap.size w w' := by
  have hs0 : strL [] = { data := #[] } := rfl
  have heq := @eql_V
  have hc1 := fun W => lcolumn_any 1 2 W
  have hc2 := fun W => lcolumn_any 2 1 W
  have hc3 := fun W => lcolumn_any 1 1 W
  have hc4 := fun W => lcolumn_any 4 3 W
  have hc5 := fun W => lcolumn_any 3 0 W
  have hs1 := fun W h => sure_any ⟨[97], 2, 1, false⟩ ⟨[97], 1, 2, false⟩ W h (by decide) (by decide)
  have hs2 := fun W h => sure_any ⟨[97], 2, 1, false⟩ ⟨[97], 1, 1, false⟩ W h (by decide) (by decide)
  rw [ws1] at hs1
  rw [ws2] at hs2
  have ho255 := fun W => lof_any 255 W
  have ho256 := fun W => lof_any 256 W
  have hom1 := fun W => lof_any (-1) W
  have hom12 := fun W => lof_any (-12) W
  have hom128 := fun W => lof_any (-128) W
  have ho12 := fun W => lof_any 12 W
  have hby1 := fun W => lbytes_any [45, 49, 50] W
  have hby2 := fun W => lbytes_any [49, 50] W
  have hby3 := fun W => lbytes_any [48, 49] W
  have hd1 := fun W h => ldoes_any ⟨[97], 1, 2, false⟩ ⟨[97], 2, 1, false⟩ ⟨1, 255, 0, []⟩ W h (by decide) (by decide) (wfv _ _ _ _ (by decide) (by decide) (by decide) (by decide) (by decide))
  have hd2 := fun W h => ldoes_any ⟨[97], 1, 2, false⟩ ⟨[97], 2, 1, false⟩ ⟨1, 256, 0, []⟩ W h (by decide) (by decide) (wfv _ _ _ _ (by decide) (by decide) (by decide) (by decide) (by decide))
  have hd3 := fun W h => ldoes_any ⟨[97], 1, 2, false⟩ ⟨[97], 2, 1, false⟩ ⟨1, -1, 0, []⟩ W h (by decide) (by decide) (wfv _ _ _ _ (by decide) (by decide) (by decide) (by decide) (by decide))
  have hd4 := fun W h => ldoes_any ⟨[97], 1, 1, false⟩ ⟨[97], 4, 3, false⟩ ⟨1, -12, 0, []⟩ W h (by decide) (by decide) (wfv _ _ _ _ (by decide) (by decide) (by decide) (by decide) (by decide))
  have hd5 := fun W h => ldoes_any ⟨[97], 1, 1, false⟩ ⟨[97], 4, 3, false⟩ ⟨1, -128, 0, []⟩ W h (by decide) (by decide) (wfv _ _ _ _ (by decide) (by decide) (by decide) (by decide) (by decide))
  have hd6 := fun W h => ldoes_any ⟨[97], 4, 3, false⟩ ⟨[97], 1, 1, false⟩ ⟨4, 0, 0, [49, 50]⟩ W h (by decide) (by decide) (wfv _ _ _ _ (by decide) (by decide) (by decide) (by decide) (by decide))
  have hd7 := fun W h => ldoes_any ⟨[97], 4, 3, false⟩ ⟨[97], 1, 1, false⟩ ⟨4, 0, 0, [48, 49]⟩ W h (by decide) (by decide) (wfv _ _ _ _ (by decide) (by decide) (by decide) (by decide) (by decide))
  have hd8 := fun W h => ldoes_any ⟨[97], 3, 0, false⟩ ⟨[97], 4, 3, false⟩ ⟨3, 1, 0, []⟩ W h (by decide) (by decide) (wfv _ _ _ _ (by decide) (by decide) (by decide) (by decide) (by decide))
  rw [wd1] at hd1
  rw [wd2] at hd2
  rw [wd3] at hd3
  rw [wd4] at hd4
  rw [wd5] at hd5
  rw [wd6] at hd6
  rw [wd7] at hd7
  rw [wd8] at hd8
  simp only [Cl.val, Vl.val, valV] at hc1 hc2 hc3 hc4 hc5 hs1 hs2 ho255 ho256 hom1 hom12 hom128 ho12 hby1 hby2 hby3 hd1 hd2 hd3 hd4 hd5 hd6 hd7 hd8
  replace hc1 := Lib.hid hc1
  replace hc2 := Lib.hid hc2
  replace hc3 := Lib.hid hc3
  replace hc4 := Lib.hid hc4
  replace hc5 := Lib.hid hc5
  replace hs1 := Lib.hid hs1
  replace hs2 := Lib.hid hs2
  replace ho255 := Lib.hid ho255
  replace ho256 := Lib.hid ho256
  replace hom1 := Lib.hid hom1
  replace hom12 := Lib.hid hom12
  replace hom128 := Lib.hid hom128
  replace ho12 := Lib.hid ho12
  replace hby1 := Lib.hid hby1
  replace hby2 := Lib.hid hby2
  replace hby3 := Lib.hid hby3
  replace hd1 := Lib.hid hd1
  replace hd2 := Lib.hid hd2
  replace hd3 := Lib.hid hd3
  replace hd4 := Lib.hid hd4
  replace hd5 := Lib.hid hd5
  replace hd6 := Lib.hid hd6
  replace hd7 := Lib.hid hd7
  replace hd8 := Lib.hid hd8
  have hb0 : Below w.heap.size w ((w.alloc (.cells #[.int .i64 2, .int .i64 0, .int .u64 161, .string { data := #[] }] 28)).alloc (.cells #[.int .i64 2, .int .i64 0, .int .u64 160, .string { data := #[] }] 28)) := gr_alloc (gr_alloc (Below.refl _ w) _) _
  have hV1 := (VBox.new w 2 0 161 { data := #[] }).below ((Below.refl _ (w.alloc (.cells #[.int .i64 2, .int .i64 0, .int .u64 161, .string { data := #[] }] 28))).alloc (Nat.le_refl _) (.cells #[.int .i64 2, .int .i64 0, .int .u64 160, .string { data := #[] }] 28)) (by simp)
  have hV2 := VBox.new (w.alloc (.cells #[.int .i64 2, .int .i64 0, .int .u64 161, .string { data := #[] }] 28)) 2 0 160 { data := #[] }
  rw [show (w.alloc (.cells #[.int .i64 2, .int .i64 0, .int .u64 161, .string { data := #[] }] 28)).heap.size = w.heap.size + 1 by simp] at hV2
  go_enter Tryz.func9, Tryz.ntmps9
  go_wp2_with fail
  refine (hc1.out _).mono ?_
  rintro e w1 ⟨rfl, g1⟩
  have hV1 := hV1.below g1 hV1.lt
  have hV2 := hV2.below g1 hV2.lt
  have hb1 := gr hb0 g1
  go_wp2_with fail
  refine (hc2.out _).mono ?_
  rintro e w2 ⟨rfl, g2⟩
  have hC3 := (CBox.new w2 ⟨[97], 1, 2, false⟩).below ((Below.refl _ (w2.alloc (.cells #[.string (strL [97]), .int .i64 1, .int .i64 2, .bool false] 24))).alloc (Nat.le_refl _) (.cells #[.string (strL [97]), .int .i64 2, .int .i64 1, .bool false] 24)) (by simp)
  have hC4 := CBox.new (w2.alloc (.cells #[.string (strL [97]), .int .i64 1, .int .i64 2, .bool false] 24)) ⟨[97], 2, 1, false⟩
  rw [show (w2.alloc (.cells #[.string (strL [97]), .int .i64 1, .int .i64 2, .bool false] 24)).heap.size = w2.heap.size + 1 by simp] at hC4
  have g3 := gr_alloc (gr_alloc g2 (.cells #[.string (strL [97]), .int .i64 1, .int .i64 2, .bool false] 24)) (.cells #[.string (strL [97]), .int .i64 2, .int .i64 1, .bool false] 24)
  have hV1 := hV1.below g3 hV1.lt
  have hV2 := hV2.below g3 hV2.lt
  have hb2 := gr hb1 g3
  clear hb0 g1 g2 hb1 g3
  go_wp2_with fail
  refine (hc3.out _).mono ?_
  rintro e w3 ⟨rfl, g1⟩
  have hV1 := hV1.below g1 hV1.lt
  have hV2 := hV2.below g1 hV2.lt
  have hC3 := hC3.below g1 hC3.lt
  have hC4 := hC4.below g1 hC4.lt
  have hb3 := gr hb2 g1
  go_wp2_with fail
  refine (hc4.out _).mono ?_
  rintro e w4 ⟨rfl, g2⟩
  have hC5 := (CBox.new w4 ⟨[97], 1, 1, false⟩).below ((Below.refl _ (w4.alloc (.cells #[.string (strL [97]), .int .i64 1, .int .i64 1, .bool false] 24))).alloc (Nat.le_refl _) (.cells #[.string (strL [97]), .int .i64 4, .int .i64 3, .bool false] 24)) (by simp)
  have hC6 := CBox.new (w4.alloc (.cells #[.string (strL [97]), .int .i64 1, .int .i64 1, .bool false] 24)) ⟨[97], 4, 3, false⟩
  rw [show (w4.alloc (.cells #[.string (strL [97]), .int .i64 1, .int .i64 1, .bool false] 24)).heap.size = w4.heap.size + 1 by simp] at hC6
  have g3 := gr_alloc (gr_alloc g2 (.cells #[.string (strL [97]), .int .i64 1, .int .i64 1, .bool false] 24)) (.cells #[.string (strL [97]), .int .i64 4, .int .i64 3, .bool false] 24)
  have hG6 : Bag _ _ _ _ _ _ _ := ⟨hV1.below g3 hV1.lt, hV2.below g3 hV2.lt, hC3.below g3 hC3.lt, hC4.below g3 hC4.lt, hC5, hC6⟩
  have hb6 := gr hb3 g3
  have hE6 := hE.below hb6
  clear g1 g2 g3 hb2 hb3 hV1 hV2 hC3 hC4 hC5 hC6 hc1 hc2 hc3 hc4 hE
  have cg := hG6.cells
  unfold CellsV CellsC at cg
  go_wp2_with fail
  refine (hs1.out _ hE6).mono ?_
  rintro e w7 ⟨rfl, g7⟩
  have hG7 := hG6.below g7
  have hE7 := hE6.below g7
  have hb7 := gr hb6 g7
  clear cg hG6 hE6 hb6 g7
  have cg := hG7.cells
  unfold CellsV CellsC at cg
  go_wp2_with fail
  refine (hs2.out _ hE7).mono ?_
  rintro e w8 ⟨rfl, g8⟩
  have hG8 := hG7.below g8
  have hE8 := hE7.below g8
  have hb8 := gr hb7 g8
  clear cg hG7 hE7 hb7 g8
  have cg := hG8.cells
  unfold CellsV CellsC at cg
  clear hs1 hs2
  go_upto_region 6 with fail
  have hG9 : Bag w8.drew _ _ _ _ _ _ := hG8
  have hE9 : Env w8.drew := hE8.below (Below.refl w8.heap.size w8).drew
  have hb9 := hb8.drew
  refine wp_region_held_drew (S := fun W' => (W'.cell? ⟨w.heap.size, 0, none⟩ = some (.int .i64 2) ∧ W'.cell? ⟨w.heap.size, 1, none⟩ = some (.int .i64 0) ∧ W'.cell? ⟨w.heap.size, 2, none⟩ = some (.int .u64 161) ∧ W'.cell? ⟨w.heap.size, 3, none⟩ = some (.string (strL []))) ∧ (W'.cell? ⟨w.heap.size + 1, 0, none⟩ = some (.int .i64 2) ∧ W'.cell? ⟨w.heap.size + 1, 1, none⟩ = some (.int .i64 0) ∧ W'.cell? ⟨w.heap.size + 1, 2, none⟩ = some (.int .u64 160) ∧ W'.cell? ⟨w.heap.size + 1, 3, none⟩ = some (.string (strL []))) ∧ (W'.cell? ⟨w2.heap.size, 0, none⟩ = some (.string (strL [97])) ∧ W'.cell? ⟨w2.heap.size, 1, none⟩ = some (.int .i64 1) ∧ W'.cell? ⟨w2.heap.size, 2, none⟩ = some (.int .i64 2) ∧ W'.cell? ⟨w2.heap.size, 3, none⟩ = some (.bool false)) ∧ (W'.cell? ⟨w2.heap.size + 1, 0, none⟩ = some (.string (strL [97])) ∧ W'.cell? ⟨w2.heap.size + 1, 1, none⟩ = some (.int .i64 2) ∧ W'.cell? ⟨w2.heap.size + 1, 2, none⟩ = some (.int .i64 1) ∧ W'.cell? ⟨w2.heap.size + 1, 3, none⟩ = some (.bool false)) ∧ (W'.cell? ⟨w4.heap.size, 0, none⟩ = some (.string (strL [97])) ∧ W'.cell? ⟨w4.heap.size, 1, none⟩ = some (.int .i64 1) ∧ W'.cell? ⟨w4.heap.size, 2, none⟩ = some (.int .i64 1) ∧ W'.cell? ⟨w4.heap.size, 3, none⟩ = some (.bool false)) ∧ W'.cell? ⟨w4.heap.size + 1, 0, none⟩ = some (.string (strL [97])) ∧ W'.cell? ⟨w4.heap.size + 1, 1, none⟩ = some (.int .i64 4) ∧ W'.cell? ⟨w4.heap.size + 1, 2, none⟩ = some (.int .i64 3) ∧ W'.cell? ⟨w4.heap.size + 1, 3, none⟩ = some (.bool false)) (by kernel_rfl) cg (fun hHeld9 => ?_)
  clear cg hG8 hE8 hb8
  refine wpAnyH_takeL (i := 0) (v := ?vhy1) rfl (by kernel_rfl) (by kernel_rfl) (by kernel_rfl) (fun _ _ _ h => h) (Or.inl ⟨by rfl, ?hy1⟩) (by assumption) ?rhy1
  case hy1 => ((intro w hSw; (try dsimp only at hSw); go_simp); try with_reducible rfl)
  try simp only [Act.put, List.setIfInBounds_toArray, List.set_cons_zero, List.set_cons_succ]
  refine wpAnyH_takeL (i := 1) (v := ?vhy2) rfl (by kernel_rfl) (by kernel_rfl) (by kernel_rfl) (fun _ _ _ h => h) (Or.inl ⟨by rfl, ?hy2⟩) (by assumption) ?rhy2
  case hy2 => ((intro w hSw; (try dsimp only at hSw); go_simp); try with_reducible rfl)
  try simp only [Act.put, List.setIfInBounds_toArray, List.set_cons_zero, List.set_cons_succ]
  refine wpAnyH_takeL (i := 4) (v := ?vhy3) rfl (by kernel_rfl) (by kernel_rfl) (by kernel_rfl) (fun _ _ _ h => h) (Or.inl ⟨by rfl, ?hy3⟩) (by assumption) ?rhy3
  case hy3 => ((intro w hSw; (try dsimp only at hSw); go_simp); try with_reducible rfl)
  try simp only [Act.put, List.setIfInBounds_toArray, List.set_cons_zero, List.set_cons_succ]
  refine wpAnyH_ready (rs := [2]) (by kernel_rfl) (by simp) ?_
  refine AllReadyH.consL (i := 2) rfl (fun K hK => ?_) AllReadyH.nil
  go_simp
  refine (ho255.out _).mono ?_
  rintro e w10 ⟨rfl, g10⟩
  have hG10 := hG9.below g10
  have hE10 := hE9.below g10
  have hb10 := gr hb9 g10
  clear hG9 hE9 hb9 g10
  have hS10 := hG10.cells
  unfold CellsV CellsC at hS10
  refine hK.out _ _ hS10 (fun hHeld10 => ?_)
  clear hS10
  refine wpAnyH_ready (rs := [3]) (by kernel_rfl) (by simp) ?_
  refine AllReadyH.consL (i := 3) rfl (fun K hK => ?_) AllReadyH.nil
  go_simp
  refine (hd1.out _ hE10).mono ?_
  rintro e w11 ⟨rfl, g11⟩
  have hG11 := hG10.below g11
  have hE11 := hE10.below g11
  have hb11 := gr hb10 g11
  clear hG10 hE10 hb10 g11
  have hS11 := hG11.cells
  unfold CellsV CellsC at hS11
  refine hK.out _ _ hS11 (fun hHeld11 => ?_)
  clear hS11
  refine wpAnyH_takeL (i := 5) (v := ?vhy4) rfl (by kernel_rfl) (by kernel_rfl) (by kernel_rfl) (fun _ _ _ h => h) (Or.inl ⟨by rfl, ?hy4⟩) (by assumption) ?rhy4
  case hy4 => ((intro w hSw; (try dsimp only at hSw); go_simp); try with_reducible rfl)
  try simp only [Act.put, List.setIfInBounds_toArray, List.set_cons_zero, List.set_cons_succ]
  refine wpAnyH_takeL (i := 6) (v := ?vhy5) rfl (by kernel_rfl) (by kernel_rfl) (by kernel_rfl) (fun _ _ _ h => h) (Or.inl ⟨by rfl, ?hy5⟩) (by assumption) ?rhy5
  case hy5 => ((intro w hSw; (try dsimp only at hSw); go_simp); try with_reducible rfl)
  try simp only [Act.put, List.setIfInBounds_toArray, List.set_cons_zero, List.set_cons_succ]
  refine wpAnyH_takeL (i := 7) (v := ?vhy6) rfl (by kernel_rfl) (by kernel_rfl) (by kernel_rfl) (fun _ _ _ h => h) (Or.inl ⟨by rfl, ?hy6⟩) (by assumption) ?rhy6
  case hy6 => ((intro w hSw; (try dsimp only at hSw); go_simp); try with_reducible rfl)
  try simp only [Act.put, List.setIfInBounds_toArray, List.set_cons_zero, List.set_cons_succ]
  refine wpAnyH_takeL (i := 8) (v := ?vhy7) rfl (by kernel_rfl) (by kernel_rfl) (by kernel_rfl) (fun _ _ _ h => h) (Or.inl ⟨by rfl, ?hy7⟩) (by assumption) ?rhy7
  case hy7 => ((intro w hSw; (try dsimp only at hSw); go_simp); try with_reducible rfl)
  try simp only [Act.put, List.setIfInBounds_toArray, List.set_cons_zero, List.set_cons_succ]
  refine wpAnyH_takeL (i := 11) (v := ?vhy8) rfl (by kernel_rfl) (by kernel_rfl) (by kernel_rfl) (fun _ _ _ h => h) (Or.inl ⟨by rfl, ?hy8⟩) (by assumption) ?rhy8
  case hy8 => ((intro w hSw; (try dsimp only at hSw); go_simp); try with_reducible rfl)
  try simp only [Act.put, List.setIfInBounds_toArray, List.set_cons_zero, List.set_cons_succ]
  refine wpAnyH_ready (rs := [9]) (by kernel_rfl) (by simp) ?_
  refine AllReadyH.consL (i := 9) rfl (fun K hK => ?_) AllReadyH.nil
  go_simp
  refine (ho256.out _).mono ?_
  rintro e w12 ⟨rfl, g12⟩
  have hG12 := hG11.below g12
  have hE12 := hE11.below g12
  have hb12 := gr hb11 g12
  clear hG11 hE11 hb11 g12
  have hS12 := hG12.cells
  unfold CellsV CellsC at hS12
  refine hK.out _ _ hS12 (fun hHeld12 => ?_)
  clear hS12
  refine wpAnyH_ready (rs := [10]) (by kernel_rfl) (by simp) ?_
  refine AllReadyH.consL (i := 10) rfl (fun K hK => ?_) AllReadyH.nil
  go_simp
  refine (hd2.out _ hE12).mono ?_
  rintro e w13 ⟨rfl, g13⟩
  have hG13 := hG12.below g13
  have hE13 := hE12.below g13
  have hb13 := gr hb12 g13
  clear hG12 hE12 hb12 g13
  have hS13 := hG13.cells
  unfold CellsV CellsC at hS13
  refine hK.out _ _ hS13 (fun hHeld13 => ?_)
  clear hS13
  refine wpAnyH_takeL (i := 12) (v := ?vhy9) rfl (by kernel_rfl) (by kernel_rfl) (by kernel_rfl) (fun _ _ _ h => h) (Or.inl ⟨by rfl, ?hy9⟩) (by assumption) ?rhy9
  case hy9 => ((intro w hSw; (try dsimp only at hSw); go_simp); try with_reducible rfl)
  try simp only [Act.put, List.setIfInBounds_toArray, List.set_cons_zero, List.set_cons_succ]
  refine wpAnyH_takeL (i := 13) (v := ?vhy10) rfl (by kernel_rfl) (by kernel_rfl) (by kernel_rfl) (fun _ _ _ h => h) (Or.inl ⟨by rfl, ?hy10⟩) (by assumption) ?rhy10
  case hy10 => ((intro w hSw; (try dsimp only at hSw); go_simp); try with_reducible rfl)
  try simp only [Act.put, List.setIfInBounds_toArray, List.set_cons_zero, List.set_cons_succ]
  refine wpAnyH_takeL (i := 14) (v := ?vhy11) rfl (by kernel_rfl) (by kernel_rfl) (by kernel_rfl) (fun _ _ _ h => h) (Or.inl ⟨by rfl, ?hy11⟩) (by assumption) ?rhy11
  case hy11 => ((intro w hSw; (try dsimp only at hSw); go_simp); try with_reducible rfl)
  try simp only [Act.put, List.setIfInBounds_toArray, List.set_cons_zero, List.set_cons_succ]
  refine wpAnyH_takeL (i := 15) (v := ?vhy12) rfl (by kernel_rfl) (by kernel_rfl) (by kernel_rfl) (fun _ _ _ h => h) (Or.inl ⟨by rfl, ?hy12⟩) (by assumption) ?rhy12
  case hy12 => ((intro w hSw; (try dsimp only at hSw); go_simp); try with_reducible rfl)
  try simp only [Act.put, List.setIfInBounds_toArray, List.set_cons_zero, List.set_cons_succ]
  refine wpAnyH_takeL (i := 16) (v := ?vhy13) rfl (by kernel_rfl) (by kernel_rfl) (by kernel_rfl) (fun _ _ _ h => h) (Or.inl ⟨by rfl, ?hy13⟩) (by assumption) ?rhy13
  case hy13 => ((intro w hSw; (try dsimp only at hSw); go_simp); try with_reducible rfl)
  try simp only [Act.put, List.setIfInBounds_toArray, List.set_cons_zero, List.set_cons_succ]
  refine wpAnyH_takeL (i := 19) (v := ?vhy14) rfl (by kernel_rfl) (by kernel_rfl) (by kernel_rfl) (fun _ _ _ h => h) (Or.inl ⟨by rfl, ?hy14⟩) (by assumption) ?rhy14
  case hy14 => ((intro w hSw; (try dsimp only at hSw); go_simp); try with_reducible rfl)
  try simp only [Act.put, List.setIfInBounds_toArray, List.set_cons_zero, List.set_cons_succ]
  refine wpAnyH_ready (rs := [17]) (by kernel_rfl) (by simp) ?_
  refine AllReadyH.consL (i := 17) rfl (fun K hK => ?_) AllReadyH.nil
  go_simp
  refine (hom1.out _).mono ?_
  rintro e w14 ⟨rfl, g14⟩
  have hG14 := hG13.below g14
  have hE14 := hE13.below g14
  have hb14 := gr hb13 g14
  clear hG13 hE13 hb13 g14
  have hS14 := hG14.cells
  unfold CellsV CellsC at hS14
  refine hK.out _ _ hS14 (fun hHeld14 => ?_)
  clear hS14
  refine wpAnyH_ready (rs := [18]) (by kernel_rfl) (by simp) ?_
  refine AllReadyH.consL (i := 18) rfl (fun K hK => ?_) AllReadyH.nil
  go_simp
  refine (hd3.out _ hE14).mono ?_
  rintro e w15 ⟨rfl, g15⟩
  have hG15 := hG14.below g15
  have hE15 := hE14.below g15
  have hb15 := gr hb14 g15
  clear hG14 hE14 hb14 g15
  have hS15 := hG15.cells
  unfold CellsV CellsC at hS15
  refine hK.out _ _ hS15 (fun hHeld15 => ?_)
  clear hS15
  refine wpAnyH_takeL (i := 20) (v := ?vhy15) rfl (by kernel_rfl) (by kernel_rfl) (by kernel_rfl) (fun _ _ _ h => h) (Or.inl ⟨by rfl, ?hy15⟩) (by assumption) ?rhy15
  case hy15 => ((intro w hSw; (try dsimp only at hSw); go_simp); try with_reducible rfl)
  try simp only [Act.put, List.setIfInBounds_toArray, List.set_cons_zero, List.set_cons_succ]
  refine wpAnyH_takeL (i := 21) (v := ?vhy16) rfl (by kernel_rfl) (by kernel_rfl) (by kernel_rfl) (fun _ _ _ h => h) (Or.inl ⟨by rfl, ?hy16⟩) (by assumption) ?rhy16
  case hy16 => ((intro w hSw; (try dsimp only at hSw); go_simp); try with_reducible rfl)
  try simp only [Act.put, List.setIfInBounds_toArray, List.set_cons_zero, List.set_cons_succ]
  refine wpAnyH_takeL (i := 22) (v := ?vhy17) rfl (by kernel_rfl) (by kernel_rfl) (by kernel_rfl) (fun _ _ _ h => h) (Or.inl ⟨by rfl, ?hy17⟩) (by assumption) ?rhy17
  case hy17 => ((intro w hSw; (try dsimp only at hSw); go_simp); try with_reducible rfl)
  try simp only [Act.put, List.setIfInBounds_toArray, List.set_cons_zero, List.set_cons_succ]
  refine wpAnyH_takeL (i := 23) (v := ?vhy18) rfl (by kernel_rfl) (by kernel_rfl) (by kernel_rfl) (fun _ _ _ h => h) (Or.inl ⟨by rfl, ?hy18⟩) (by assumption) ?rhy18
  case hy18 => ((intro w hSw; (try dsimp only at hSw); go_simp); try with_reducible rfl)
  try simp only [Act.put, List.setIfInBounds_toArray, List.set_cons_zero, List.set_cons_succ]
  refine wpAnyH_takeL (i := 24) (v := ?vhy19) rfl (by kernel_rfl) (by kernel_rfl) (by kernel_rfl) (fun _ _ _ h => h) (Or.inl ⟨by rfl, ?hy19⟩) (by assumption) ?rhy19
  case hy19 => ((intro w hSw; (try dsimp only at hSw); go_simp); try with_reducible rfl)
  try simp only [Act.put, List.setIfInBounds_toArray, List.set_cons_zero, List.set_cons_succ]
  refine wpAnyH_ready (rs := [25]) (by kernel_rfl) (by simp) ?_
  refine AllReadyH.consL (i := 25) rfl (fun K hK => ?_) AllReadyH.nil
  go_simp
  refine (hom12.out _).mono ?_
  rintro e w16 ⟨rfl, g16⟩
  have hG16 := hG15.below g16
  have hE16 := hE15.below g16
  have hb16 := gr hb15 g16
  clear hG15 hE15 hb15 g16
  have hS16 := hG16.cells
  unfold CellsV CellsC at hS16
  refine hK.out _ _ hS16 (fun hHeld16 => ?_)
  clear hS16
  refine wpAnyH_ready (rs := [26]) (by kernel_rfl) (by simp) ?_
  refine AllReadyH.consL (i := 26) rfl (fun K hK => ?_) AllReadyH.nil
  go_simp
  refine (hd4.out _ hE16).mono ?_
  rintro e w17 ⟨rfl, g17⟩
  have hG17 := hG16.below g17
  have hE17 := hE16.below g17
  have hb17 := gr hb16 g17
  clear hG16 hE16 hb16 g17
  have hS17 := hG17.cells
  unfold CellsV CellsC at hS17
  refine hK.out _ _ hS17 (fun hHeld17 => ?_)
  clear hS17
  refine wpAnyH_ready (rs := [27]) (by kernel_rfl) (by simp) ?_
  refine AllReadyH.consL (i := 27) rfl (fun K hK => ?_) AllReadyH.nil
  go_simp
  refine (hby1.out _).mono ?_
  rintro e w18 ⟨rfl, g18⟩
  have hG18 := hG17.below g18
  have hE18 := hE17.below g18
  have hb18 := gr hb17 g18
  clear hG17 hE17 hb17 g18
  have hS18 := hG18.cells
  unfold CellsV CellsC at hS18
  refine hK.out _ _ hS18 (fun hHeld18 => ?_)
  clear hS18
  refine wpAnyH_takeL (i := 28) (v := ?vhy20) rfl (by kernel_rfl) (by kernel_rfl) (by kernel_rfl) (fun _ _ _ h => h) (Or.inl ⟨by rfl, ?hy20⟩) (by assumption) ?rhy20
  case hy20 => ((intro w hSw; (try dsimp only at hSw); go_simp); try with_reducible rfl)
  try simp only [Act.put, List.setIfInBounds_toArray, List.set_cons_zero, List.set_cons_succ]
  refine wpAnyH_takeL (i := 29) (v := ?vhy21) rfl (by kernel_rfl) (by kernel_rfl) (by kernel_rfl) (fun _ _ _ h => h) (Or.inl ⟨by rfl, ?hy21⟩) (by assumption) ?rhy21
  case hy21 => ((intro w hSw; (try dsimp only at hSw); go_simp); try with_reducible rfl)
  try simp only [Act.put, List.setIfInBounds_toArray, List.set_cons_zero, List.set_cons_succ]
  refine wpAnyH_takeL (i := 30) (v := ?vhy22) rfl (by kernel_rfl) (by kernel_rfl) (by kernel_rfl) (fun _ _ _ h => h) (Or.inl ⟨by rfl, ?hy22⟩) (by assumption) ?rhy22
  case hy22 => ((intro w hSw; (try dsimp only at hSw); go_simp); try with_reducible rfl)
  try simp only [Act.put, List.setIfInBounds_toArray, List.set_cons_zero, List.set_cons_succ]
  refine wpAnyH_takeL (i := 31) (v := ?vhy23) rfl (by kernel_rfl) (by kernel_rfl) (by kernel_rfl) (fun _ _ _ h => h) (Or.inl ⟨by rfl, ?hy23⟩) (by assumption) ?rhy23
  case hy23 => ((intro w hSw; (try dsimp only at hSw); go_simp); try with_reducible rfl)
  try simp only [Act.put, List.setIfInBounds_toArray, List.set_cons_zero, List.set_cons_succ]
  refine wpAnyH_takeL (i := 32) (v := ?vhy24) rfl (by kernel_rfl) (by kernel_rfl) (by kernel_rfl) (fun _ _ _ h => h) (Or.inl ⟨by rfl, ?hy24⟩) (by assumption) ?rhy24
  case hy24 => ((intro w hSw; (try dsimp only at hSw); go_simp); try with_reducible rfl)
  try simp only [Act.put, List.setIfInBounds_toArray, List.set_cons_zero, List.set_cons_succ]
  refine wpAnyH_takeL (i := 35) (v := ?vhy25) rfl (by kernel_rfl) (by kernel_rfl) (by kernel_rfl) (fun _ _ _ h => h) (Or.inl ⟨by rfl, ?hy25⟩) (by assumption) ?rhy25
  case hy25 => ((intro w hSw; (try dsimp only at hSw); go_simp); try with_reducible rfl)
  try simp only [Act.put, List.setIfInBounds_toArray, List.set_cons_zero, List.set_cons_succ]
  refine wpAnyH_ready (rs := [33]) (by kernel_rfl) (by simp) ?_
  refine AllReadyH.consL (i := 33) rfl (fun K hK => ?_) AllReadyH.nil
  go_simp
  refine (hom128.out _).mono ?_
  rintro e w19 ⟨rfl, g19⟩
  have hG19 := hG18.below g19
  have hE19 := hE18.below g19
  have hb19 := gr hb18 g19
  clear hG18 hE18 hb18 g19
  have hS19 := hG19.cells
  unfold CellsV CellsC at hS19
  refine hK.out _ _ hS19 (fun hHeld19 => ?_)
  clear hS19
  refine wpAnyH_ready (rs := [34]) (by kernel_rfl) (by simp) ?_
  refine AllReadyH.consL (i := 34) rfl (fun K hK => ?_) AllReadyH.nil
  go_simp
  refine (hd5.out _ hE19).mono ?_
  rintro e w20 ⟨rfl, g20⟩
  have hG20 := hG19.below g20
  have hE20 := hE19.below g20
  have hb20 := gr hb19 g20
  clear hG19 hE19 hb19 g20
  have hS20 := hG20.cells
  unfold CellsV CellsC at hS20
  refine hK.out _ _ hS20 (fun hHeld20 => ?_)
  clear hS20
  refine wpAnyH_takeL (i := 36) (v := ?vhy26) rfl (by kernel_rfl) (by kernel_rfl) (by kernel_rfl) (fun _ _ _ h => h) (Or.inl ⟨by rfl, ?hy26⟩) (by assumption) ?rhy26
  case hy26 => ((intro w hSw; (try dsimp only at hSw); go_simp); try with_reducible rfl)
  try simp only [Act.put, List.setIfInBounds_toArray, List.set_cons_zero, List.set_cons_succ]
  refine wpAnyH_takeL (i := 37) (v := ?vhy27) rfl (by kernel_rfl) (by kernel_rfl) (by kernel_rfl) (fun _ _ _ h => h) (Or.inl ⟨by rfl, ?hy27⟩) (by assumption) ?rhy27
  case hy27 => ((intro w hSw; (try dsimp only at hSw); go_simp); try with_reducible rfl)
  try simp only [Act.put, List.setIfInBounds_toArray, List.set_cons_zero, List.set_cons_succ]
  refine wpAnyH_takeL (i := 38) (v := ?vhy28) rfl (by kernel_rfl) (by kernel_rfl) (by kernel_rfl) (fun _ _ _ h => h) (Or.inl ⟨by rfl, ?hy28⟩) (by assumption) ?rhy28
  case hy28 => ((intro w hSw; (try dsimp only at hSw); go_simp); try with_reducible rfl)
  try simp only [Act.put, List.setIfInBounds_toArray, List.set_cons_zero, List.set_cons_succ]
  refine wpAnyH_takeL (i := 39) (v := ?vhy29) rfl (by kernel_rfl) (by kernel_rfl) (by kernel_rfl) (fun _ _ _ h => h) (Or.inl ⟨by rfl, ?hy29⟩) (by assumption) ?rhy29
  case hy29 => ((intro w hSw; (try dsimp only at hSw); go_simp); try with_reducible rfl)
  try simp only [Act.put, List.setIfInBounds_toArray, List.set_cons_zero, List.set_cons_succ]
  refine wpAnyH_takeL (i := 40) (v := ?vhy30) rfl (by kernel_rfl) (by kernel_rfl) (by kernel_rfl) (fun _ _ _ h => h) (Or.inl ⟨by rfl, ?hy30⟩) (by assumption) ?rhy30
  case hy30 => ((intro w hSw; (try dsimp only at hSw); go_simp); try with_reducible rfl)
  try simp only [Act.put, List.setIfInBounds_toArray, List.set_cons_zero, List.set_cons_succ]
  refine wpAnyH_ready (rs := [41]) (by kernel_rfl) (by simp) ?_
  refine AllReadyH.consL (i := 41) rfl (fun K hK => ?_) AllReadyH.nil
  go_simp
  refine (hby2.out _).mono ?_
  rintro e w21 ⟨rfl, g21⟩
  have hG21 := hG20.below g21
  have hE21 := hE20.below g21
  have hb21 := gr hb20 g21
  clear hG20 hE20 hb20 g21
  have hS21 := hG21.cells
  unfold CellsV CellsC at hS21
  refine hK.out _ _ hS21 (fun hHeld21 => ?_)
  clear hS21
  refine wpAnyH_ready (rs := [42]) (by kernel_rfl) (by simp) ?_
  refine AllReadyH.consL (i := 42) rfl (fun K hK => ?_) AllReadyH.nil
  go_simp
  refine (hd6.out _ hE21).mono ?_
  rintro e w22 ⟨rfl, g22⟩
  have hG22 := hG21.below g22
  have hE22 := hE21.below g22
  have hb22 := gr hb21 g22
  clear hG21 hE21 hb21 g22
  have hS22 := hG22.cells
  unfold CellsV CellsC at hS22
  refine hK.out _ _ hS22 (fun hHeld22 => ?_)
  clear hS22
  refine wpAnyH_ready (rs := [43]) (by kernel_rfl) (by simp) ?_
  refine AllReadyH.consL (i := 43) rfl (fun K hK => ?_) AllReadyH.nil
  go_simp
  refine (ho12.out _).mono ?_
  rintro e w23 ⟨rfl, g23⟩
  have hG23 := hG22.below g23
  have hE23 := hE22.below g23
  have hb23 := gr hb22 g23
  clear hG22 hE22 hb22 g23
  have hS23 := hG23.cells
  unfold CellsV CellsC at hS23
  refine hK.out _ _ hS23 (fun hHeld23 => ?_)
  clear hS23
  refine wpAnyH_takeL (i := 44) (v := ?vhy31) rfl (by kernel_rfl) (by kernel_rfl) (by kernel_rfl) (fun _ _ _ h => h) (Or.inl ⟨by rfl, ?hy31⟩) (by assumption) ?rhy31
  case hy31 => ((intro w hSw; (try dsimp only at hSw); go_simp); try with_reducible rfl)
  try simp only [Act.put, List.setIfInBounds_toArray, List.set_cons_zero, List.set_cons_succ]
  refine wpAnyH_takeL (i := 45) (v := ?vhy32) rfl (by kernel_rfl) (by kernel_rfl) (by kernel_rfl) (fun _ _ _ h => h) (Or.inl ⟨by rfl, ?hy32⟩) (by assumption) ?rhy32
  case hy32 => ((intro w hSw; (try dsimp only at hSw); go_simp); try with_reducible rfl)
  try simp only [Act.put, List.setIfInBounds_toArray, List.set_cons_zero, List.set_cons_succ]
  refine wpAnyH_takeL (i := 46) (v := ?vhy33) rfl (by kernel_rfl) (by kernel_rfl) (by kernel_rfl) (fun _ _ _ h => h) (Or.inl ⟨by rfl, ?hy33⟩) (by assumption) ?rhy33
  case hy33 => ((intro w hSw; (try dsimp only at hSw); go_simp); try with_reducible rfl)
  try simp only [Act.put, List.setIfInBounds_toArray, List.set_cons_zero, List.set_cons_succ]
  refine wpAnyH_takeL (i := 47) (v := ?vhy34) rfl (by kernel_rfl) (by kernel_rfl) (by kernel_rfl) (fun _ _ _ h => h) (Or.inl ⟨by rfl, ?hy34⟩) (by assumption) ?rhy34
  case hy34 => ((intro w hSw; (try dsimp only at hSw); go_simp); try with_reducible rfl)
  try simp only [Act.put, List.setIfInBounds_toArray, List.set_cons_zero, List.set_cons_succ]
  refine wpAnyH_takeL (i := 48) (v := ?vhy35) rfl (by kernel_rfl) (by kernel_rfl) (by kernel_rfl) (fun _ _ _ h => h) (Or.inl ⟨by rfl, ?hy35⟩) (by assumption) ?rhy35
  case hy35 => ((intro w hSw; (try dsimp only at hSw); go_simp); try with_reducible rfl)
  try simp only [Act.put, List.setIfInBounds_toArray, List.set_cons_zero, List.set_cons_succ]
  refine wpAnyH_takeL (i := 51) (v := ?vhy36) rfl (by kernel_rfl) (by kernel_rfl) (by kernel_rfl) (fun _ _ _ h => h) (Or.inl ⟨by rfl, ?hy36⟩) (by assumption) ?rhy36
  case hy36 => ((intro w hSw; (try dsimp only at hSw); go_simp); try with_reducible rfl)
  try simp only [Act.put, List.setIfInBounds_toArray, List.set_cons_zero, List.set_cons_succ]
  refine wpAnyH_ready (rs := [49]) (by kernel_rfl) (by simp) ?_
  refine AllReadyH.consL (i := 49) rfl (fun K hK => ?_) AllReadyH.nil
  go_simp
  refine (hby3.out _).mono ?_
  rintro e w24 ⟨rfl, g24⟩
  have hG24 := hG23.below g24
  have hE24 := hE23.below g24
  have hb24 := gr hb23 g24
  clear hG23 hE23 hb23 g24
  have hS24 := hG24.cells
  unfold CellsV CellsC at hS24
  refine hK.out _ _ hS24 (fun hHeld24 => ?_)
  clear hS24
  refine wpAnyH_ready (rs := [50]) (by kernel_rfl) (by simp) ?_
  refine AllReadyH.consL (i := 50) rfl (fun K hK => ?_) AllReadyH.nil
  go_simp
  refine (hd7.out _ hE24).mono ?_
  rintro e w25 ⟨rfl, g25⟩
  have hG25 := hG24.below g25
  have hE25 := hE24.below g25
  have hb25 := gr hb24 g25
  clear hG24 hE24 hb24 g25
  have hS25 := hG25.cells
  unfold CellsV CellsC at hS25
  refine hK.out _ _ hS25 (fun hHeld25 => ?_)
  clear hS25
  refine wpAnyH_takeL (i := 52) (v := ?vhy37) rfl (by kernel_rfl) (by kernel_rfl) (by kernel_rfl) (fun _ _ _ h => h) (Or.inl ⟨by rfl, ?hy37⟩) (by assumption) ?rhy37
  case hy37 => ((intro w hSw; (try dsimp only at hSw); go_simp); try with_reducible rfl)
  try simp only [Act.put, List.setIfInBounds_toArray, List.set_cons_zero, List.set_cons_succ]
  refine wpAnyH_takeL (i := 53) (v := ?vhy38) rfl (by kernel_rfl) (by kernel_rfl) (by kernel_rfl) (fun _ _ _ h => h) (Or.inl ⟨by rfl, ?hy38⟩) (by assumption) ?rhy38
  case hy38 => ((intro w hSw; (try dsimp only at hSw); go_simp); try with_reducible rfl)
  try simp only [Act.put, List.setIfInBounds_toArray, List.set_cons_zero, List.set_cons_succ]
  refine wpAnyH_takeL (i := 54) (v := ?vhy39) rfl (by kernel_rfl) (by kernel_rfl) (by kernel_rfl) (fun _ _ _ h => h) (Or.inl ⟨by rfl, ?hy39⟩) (by assumption) ?rhy39
  case hy39 => ((intro w hSw; (try dsimp only at hSw); go_simp); try with_reducible rfl)
  try simp only [Act.put, List.setIfInBounds_toArray, List.set_cons_zero, List.set_cons_succ]
  refine wpAnyH_takeL (i := 55) (v := ?vhy40) rfl (by kernel_rfl) (by kernel_rfl) (by kernel_rfl) (fun _ _ _ h => h) (Or.inl ⟨by rfl, ?hy40⟩) (by assumption) ?rhy40
  case hy40 => ((intro w hSw; (try dsimp only at hSw); go_simp); try with_reducible rfl)
  try simp only [Act.put, List.setIfInBounds_toArray, List.set_cons_zero, List.set_cons_succ]
  refine wpAnyH_takeL (i := 56) (v := ?vhy41) rfl (by kernel_rfl) (by kernel_rfl) (by kernel_rfl) (fun _ _ _ h => h) (Or.inl ⟨by rfl, ?hy41⟩) (by assumption) ?rhy41
  case hy41 => ((intro w hSw; (try dsimp only at hSw); go_simp); try with_reducible rfl)
  try simp only [Act.put, List.setIfInBounds_toArray, List.set_cons_zero, List.set_cons_succ]
  refine wpAnyH_takeL (i := 57) (v := ?vhy42) rfl (by kernel_rfl) (by kernel_rfl) (by kernel_rfl) (fun _ _ _ h => h) (Or.inl ⟨by rfl, ?hy42⟩) (by assumption) ?rhy42
  case hy42 => ((intro w hSw; (try dsimp only at hSw); go_simp); try with_reducible rfl)
  try simp only [Act.put, List.setIfInBounds_toArray, List.set_cons_zero, List.set_cons_succ]
  refine wpAnyH_takeL (i := 58) (v := ?vhy43) rfl (by kernel_rfl) (by kernel_rfl) (by kernel_rfl) (fun _ _ _ h => h) (Or.inl ⟨by rfl, ?hy43⟩) (by assumption) ?rhy43
  case hy43 => ((intro w hSw; (try dsimp only at hSw); go_simp); try with_reducible rfl)
  try simp only [Act.put, List.setIfInBounds_toArray, List.set_cons_zero, List.set_cons_succ]
  refine wpAnyH_takeL (i := 59) (v := ?vhy44) rfl (by kernel_rfl) (by kernel_rfl) (by kernel_rfl) (fun _ _ _ h => h) (Or.inl ⟨by rfl, ?hy44⟩) (by assumption) ?rhy44
  case hy44 => ((intro w hSw; (try dsimp only at hSw); go_simp); try with_reducible rfl)
  try simp only [Act.put, List.setIfInBounds_toArray, List.set_cons_zero, List.set_cons_succ]
  refine wpAnyH_takeL (i := 60) (v := ?vhy45) rfl (by kernel_rfl) (by kernel_rfl) (by kernel_rfl) (fun _ _ _ h => h) (Or.inl ⟨by rfl, ?hy45⟩) (by assumption) ?rhy45
  case hy45 => ((intro w hSw; (try dsimp only at hSw); go_simp); try with_reducible rfl)
  try simp only [Act.put, List.setIfInBounds_toArray, List.set_cons_zero, List.set_cons_succ]
  refine wpAnyH_takeL (i := 61) (v := ?vhy46) rfl (by kernel_rfl) (by kernel_rfl) (by kernel_rfl) (fun _ _ _ h => h) (Or.inl ⟨by rfl, ?hy46⟩) (by assumption) ?rhy46
  case hy46 => ((intro w hSw; (try dsimp only at hSw); go_simp); try with_reducible rfl)
  try simp only [Act.put, List.setIfInBounds_toArray, List.set_cons_zero, List.set_cons_succ]
  refine wpAnyH_takeL (i := 62) (v := ?vhy47) rfl (by kernel_rfl) (by kernel_rfl) (by kernel_rfl) (fun _ _ _ h => h) (Or.inl ⟨by rfl, ?hy47⟩) (by assumption) ?rhy47
  case hy47 => ((intro w hSw; (try dsimp only at hSw); go_simp); try with_reducible rfl)
  try simp only [Act.put, List.setIfInBounds_toArray, List.set_cons_zero, List.set_cons_succ]
  refine wpAnyH_takeL (i := 64) (v := ?vhy48) rfl (by kernel_rfl) (by kernel_rfl) (by kernel_rfl) (fun _ _ _ h => h) (Or.inl ⟨by rfl, ?hy48⟩) (by assumption) ?rhy48
  case hy48 => ((intro w hSw; (try dsimp only at hSw); go_simp); try with_reducible rfl)
  try simp only [Act.put, List.setIfInBounds_toArray, List.set_cons_zero, List.set_cons_succ]
  refine wpAnyH_ready (rs := [63]) (by kernel_rfl) (by simp) ?_
  refine AllReadyH.consL (i := 63) rfl (fun K hK => ?_) AllReadyH.nil
  go_simp
  refine (lnum_any _ _).mono ?_
  rintro e w' ⟨rfl, rfl⟩
  refine hK.out _ _ hHeld25 (fun hHeldx => ?_)
  refine wpAnyH_ready (rs := [65]) (by kernel_rfl) (by simp) ?_
  refine AllReadyH.consL (i := 65) rfl (fun K hK => ?_) AllReadyH.nil
  go_simp
  refine (lnum_any _ _).mono ?_
  rintro e w' ⟨rfl, rfl⟩
  refine hK.out _ _ hHeld25 (fun hHeldy => ?_)
  refine wpAnyH_takeL (i := 66) (v := ?vhy49) rfl (by kernel_rfl) (by kernel_rfl) (by kernel_rfl) (fun _ _ _ h => h) (Or.inl ⟨by rfl, ?hy49⟩) (by assumption) ?rhy49
  case hy49 => ((intro w hSw; (try dsimp only at hSw); go_simp); try with_reducible rfl)
  try simp only [Act.put, List.setIfInBounds_toArray, List.set_cons_zero, List.set_cons_succ]
  refine wpAnyH_takeL (i := 67) (v := ?vhy50) rfl (by kernel_rfl) (by kernel_rfl) (by kernel_rfl) (fun _ _ _ h => h) (Or.inl ⟨by rfl, ?hy50⟩) (by assumption) ?rhy50
  case hy50 => ((intro w hSw; (try dsimp only at hSw); go_simp); try with_reducible rfl)
  try simp only [Act.put, List.setIfInBounds_toArray, List.set_cons_zero, List.set_cons_succ]
  refine wpAnyH_takeL (i := 68) (v := ?vhy51) rfl (by kernel_rfl) (by kernel_rfl) (by kernel_rfl) (fun _ _ _ h => h) (Or.inl ⟨by rfl, ?hy51⟩) (by assumption) ?rhy51
  case hy51 => ((intro w hSw; (try dsimp only at hSw); go_simp); try with_reducible rfl)
  try simp only [Act.put, List.setIfInBounds_toArray, List.set_cons_zero, List.set_cons_succ]
  refine wpAnyH_takeL (i := 69) (v := ?vhy52) rfl (by kernel_rfl) (by kernel_rfl) (by kernel_rfl) (fun _ _ _ h => h) (Or.inl ⟨by rfl, ?hy52⟩) (by assumption) ?rhy52
  case hy52 => ((intro w hSw; (try dsimp only at hSw); go_simp); try with_reducible rfl)
  try simp only [Act.put, List.setIfInBounds_toArray, List.set_cons_zero, List.set_cons_succ]
  refine wpAnyH_takeL (i := 71) (v := ?vhy53) rfl (by kernel_rfl) (by kernel_rfl) (by kernel_rfl) (fun _ _ _ h => h) (Or.inl ⟨by rfl, ?hy53⟩) (by assumption) ?rhy53
  case hy53 => ((intro w hSw; (try dsimp only at hSw); go_simp); try with_reducible rfl)
  try simp only [Act.put, List.setIfInBounds_toArray, List.set_cons_zero, List.set_cons_succ]
  refine wpAnyH_takeL (i := 72) (v := ?vhy54) rfl (by kernel_rfl) (by kernel_rfl) (by kernel_rfl) (fun _ _ _ h => h) (Or.inl ⟨by rfl, ?hy54⟩) (by assumption) ?rhy54
  case hy54 => ((intro w hSw; (try dsimp only at hSw); go_simp); try with_reducible rfl)
  try simp only [Act.put, List.setIfInBounds_toArray, List.set_cons_zero, List.set_cons_succ]
  refine wpAnyH_takeL (i := 74) (v := ?vhy55) rfl (by kernel_rfl) (by kernel_rfl) (by kernel_rfl) (fun _ _ _ h => h) (Or.inl ⟨by rfl, ?hy55⟩) (by assumption) ?rhy55
  case hy55 => ((intro w hSw; (try dsimp only at hSw); go_simp); try with_reducible rfl)
  try simp only [Act.put, List.setIfInBounds_toArray, List.set_cons_zero, List.set_cons_succ]
  refine wpAnyH_ready (rs := [70]) (by kernel_rfl) (by simp) ?_
  refine AllReadyH.consL (i := 70) rfl (fun K hK => ?_) AllReadyH.nil
  go_simp
  refine (hc5.out _).mono ?_
  rintro e w26 ⟨rfl, g26⟩
  have hG26 := hG25.below g26
  have hE26 := hE25.below g26
  have hb26 := gr hb25 g26
  clear hG25 hE25 hb25 g26
  have hS26 := hG26.cells
  unfold CellsV CellsC at hS26
  refine hK.out _ _ hS26 (fun hHeld26 => ?_)
  clear hS26
  refine wpAnyH_ready (rs := [73]) (by kernel_rfl) (by simp) ?_
  refine AllReadyH.consL (i := 73) rfl (fun K hK => ?_) AllReadyH.nil
  go_simp
  refine (hd8.out _ hE26).mono ?_
  rintro e w27 ⟨rfl, g27⟩
  have hG27 := hG26.below g27
  have hE27 := hE26.below g27
  have hb27 := gr hb26 g27
  clear hG26 hE26 hb26 g27
  have hS27 := hG27.cells
  unfold CellsV CellsC at hS27
  refine hK.out _ _ hS27 (fun hHeld27 => ?_)
  clear hS27
  refine wpAnyH_takeL (i := 75) (v := ?vhy56) rfl (by kernel_rfl) (by kernel_rfl) (by kernel_rfl) (fun _ _ _ h => h) (Or.inl ⟨by rfl, ?hy56⟩) (by assumption) ?rhy56
  case hy56 => ((intro w hSw; (try dsimp only at hSw); go_simp); try with_reducible rfl)
  try simp only [Act.put, List.setIfInBounds_toArray, List.set_cons_zero, List.set_cons_succ]
  refine wpAnyH_takeL (i := 76) (v := ?vhy57) rfl (by kernel_rfl) (by kernel_rfl) (by kernel_rfl) (fun _ _ _ h => h) (Or.inl ⟨by rfl, ?hy57⟩) (by assumption) ?rhy57
  case hy57 => ((intro w hSw; (try dsimp only at hSw); go_simp); try with_reducible rfl)
  try simp only [Act.put, List.setIfInBounds_toArray, List.set_cons_zero, List.set_cons_succ]
  refine wpAnyH_takeL (i := 77) (v := ?vhyz) rfl (by kernel_rfl) (by kernel_rfl) (by kernel_rfl) (fun _ _ _ h => h) (Or.inl ⟨by rfl, ?hyz⟩) (by assumption) ?rhyz
  case hyz => ((intro w hSw; (try dsimp only at hSw); go_simp); try with_reducible rfl)
  try simp only [Act.put, List.setIfInBounds_toArray, List.set_cons_zero]
  refine wpAnyH_done (by kernel_rfl) ?_ _
  go_wp2
  go_ret
  exact ⟨rfl, hb27⟩
end Go.Proofs.YtagoooclfcbdeaaGreatDoor
