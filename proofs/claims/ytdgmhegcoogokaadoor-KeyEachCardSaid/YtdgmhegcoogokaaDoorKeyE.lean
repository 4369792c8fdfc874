/- key: what a Kind reads, but for texts. -/
import Derived.Test.YtdgmhegcoogokaaDoorKeyC
import Derived.Test.YtdgmhegcoogokaaDoorConv
namespace Go.Proofs.YtdgmhegcoogokaaDoor
open Go.RowKit
set_option linter.unusedVariables false

/-- Nothing that was there has turned but for two blocks. -/
structure But (T B : Nat) (w w' : World) : Prop where
  os : w'.os = w.os
  tape : w'.tape = w.tape
  output : w'.output = w.output
  size : w.heap.size ≤ w'.heap.size
  block : ∀ k, k < w.heap.size → k ≠ T → k ≠ B → w'.heap[k]? = w.heap[k]?
theorem But.refl (T B : Nat) (w : World) : But T B w w := ⟨rfl, rfl, rfl, Nat.le_refl _, fun _ _ _ _ => rfl⟩
theorem But.trans {T B : Nat} {a b c : World} (h : But T B a b) (k : But T B b c) : But T B a c :=
  ⟨k.os.trans h.os, k.tape.trans h.tape, k.output.trans h.output, Nat.le_trans h.size k.size, fun j h1 h2 h3 => (k.block j (Nat.lt_of_lt_of_le h1 h.size) h2 h3).trans (h.block j h1 h2 h3)⟩
theorem But.of_below {T B : Nat} {w w' : World} (h : Below w.heap.size w w') : But T B w w' := ⟨h.os, h.tape, h.output, h.size, fun k hk _ _ => h.block k hk⟩
theorem But.below {T B base : Nat} {w w' : World} (h : But T B w w') (hT : base ≤ T) (hB : base ≤ B) (hw : base ≤ w.heap.size) : Below base w w' := ⟨h.os, h.tape, h.output, h.size, fun k hk => h.block k (by omega) (by omega) (by omega)⟩
theorem But.setT {T B : Nat} (w : World) (o : Nat) (v : Value) : But T B w (w.setCell ⟨T, o, none⟩ v) := ⟨rfl, rfl, rfl, (KeepsWalks.setCell w _ v).size, fun k _ h1 _ => Below.heap_setCell _ _ _ k h1⟩
theorem But.setB {T B : Nat} (w : World) (o : Nat) (v : Value) : But T B w (w.setCell ⟨B, o, none⟩ v) := ⟨rfl, rfl, rfl, (KeepsWalks.setCell w _ v).size, fun k _ _ h1 => Below.heap_setCell _ _ _ k h1⟩

theorem But.grown {T B : Nat} {w W W' : World} {row : Option Nat} (h : But T B w W) (hg : W.grownBy W' row) (hr : ∀ r, row = some r → w.heap.size ≤ r) : But T B w W' :=
  ⟨hg.os.trans h.os, hg.tape.trans h.tape, hg.output.trans h.output, Nat.le_trans h.size hg.size, fun k hk h1 h2 => (hg.block k (Nat.lt_of_lt_of_le hk h.size) (fun e => by have := hr k e.symm; omega)).trans (h.block k hk h1 h2)⟩
theorem SBox.lt {W : World} {B : Nat} {x : ByteArray} (h : SBox W B x) : B < W.heap.size := (Array.getElem?_eq_some_iff.1 h).1
theorem SBox.set {W : World} {B : Nat} {x : ByteArray} (h : SBox W B x) (y : ByteArray) : SBox (W.setCell ⟨B, 0, none⟩ (.string y)) B y := by
  unfold SBox at *
  show (W.heap.modify B _)[B]? = _
  obtain ⟨hlt, hk⟩ := Array.getElem?_eq_some_iff.1 h
  rw [Array.getElem?_eq_getElem (by rw [Array.size_modify]; exact hlt), Array.getElem_modify_self, hk]
  rfl
theorem SBox.other {W : World} {B B' o : Nat} {x : ByteArray} (h : SBox W B x) (hne : B ≠ B') (v : Value) : SBox (W.setCell ⟨B', o, none⟩ v) B x := (Below.heap_setCell _ _ _ B hne).trans h
theorem SBox.below {W W' : World} {B : Nat} {x : ByteArray} (h : SBox W B x) (hb : Below W.heap.size W W') : SBox W' B x := (hb.block B h.lt).trans h
theorem VBox.other {W : World} {B B' o : Nat} {k i u : Int} {s : ByteArray} (h : VBox W B k i u s) (hne : B ≠ B') (v : Value) : VBox (W.setCell ⟨B', o, none⟩ v) B k i u s := (Below.heap_setCell _ _ _ B hne).trans h
theorem VBox.setI {W : World} {B : Nat} {k i u : Int} {s : ByteArray} (h : VBox W B k i u s) (y : Int) : VBox (W.setCell ⟨B, 1, none⟩ (.int .i64 y)) B k y u s := by
  unfold VBox at *
  show (W.heap.modify B _)[B]? = _
  obtain ⟨hlt, hk⟩ := Array.getElem?_eq_some_iff.1 h
  rw [Array.getElem?_eq_getElem (by rw [Array.size_modify]; exact hlt), Array.getElem_modify_self, hk]
  rfl
theorem VBox.setU {W : World} {B : Nat} {k i u : Int} {s : ByteArray} (h : VBox W B k i u s) (y : Int) : VBox (W.setCell ⟨B, 2, none⟩ (.int .u64 y)) B k i y s := by
  unfold VBox at *
  show (W.heap.modify B _)[B]? = _
  obtain ⟨hlt, hk⟩ := Array.getElem?_eq_some_iff.1 h
  rw [Array.getElem?_eq_getElem (by rw [Array.size_modify]; exact hlt), Array.getElem_modify_self, hk]
  rfl
theorem VBox.setS {W : World} {B : Nat} {k i u : Int} {s : ByteArray} (h : VBox W B k i u s) (y : ByteArray) : VBox (W.setCell ⟨B, 3, none⟩ (.string y)) B k i u y := by
  unfold VBox at *
  show (W.heap.modify B _)[B]? = _
  obtain ⟨hlt, hk⟩ := Array.getElem?_eq_some_iff.1 h
  rw [Array.getElem?_eq_getElem (by rw [Array.size_modify]; exact hlt), Array.getElem_modify_self, hk]
  rfl
theorem VBox.setK {W : World} {B : Nat} {k i u : Int} {s : ByteArray} (h : VBox W B k i u s) (y : Int) : VBox (W.setCell ⟨B, 0, none⟩ (.int .i64 y)) B y i u s := by
  unfold VBox at *
  show (W.heap.modify B _)[B]? = _
  obtain ⟨hlt, hk⟩ := Array.getElem?_eq_some_iff.1 h
  rw [Array.getElem?_eq_getElem (by rw [Array.size_modify]; exact hlt), Array.getElem_modify_self, hk]
  rfl

theorem strL_lo (l : List UInt8) (n : Nat) : (strL l).extract 0 n = strL (l.take n) := by
  unfold strL
  apply ByteArray.ext
  rw [ByteArray.data_extract]
  simp
theorem strL_hi (l : List UInt8) (n : Nat) : (strL l).extract n (strL l).size = strL (l.drop n) := by
  unfold strL
  apply ByteArray.ext
  rw [ByteArray.data_extract]
  simp [ByteArray.size]
  exact List.take_of_length_le (by simp)

theorem take_l (B : Nat) (t : List UInt8) (n : Nat) (w : World) (h : SBox w B (strL t)) (hn : n ≤ t.length) (hx : t.length ≤ maxLen) :
    Calls Tryd.prog 41 #[.pointer (some ⟨B, 0, none⟩), .int .i64 (n : Int)] w fun e w' => e = .returned (.string (strL (t.take n))) ∧ w' = w.setCell ⟨B, 0, none⟩ (.string (strL (t.drop n))) := by
  have h := take_some B (strL t) n w h (by rw [strL_size]; exact hn) (by rw [strL_size]; exact hx)
  rw [strL_lo, strL_hi] at h
  exact h
theorem take_no (B : Nat) (t : List UInt8) (n : Nat) (w : World) (h : SBox w B (strL t)) (hn : t.length < n) (hx : n ≤ maxLen) :
    Calls Tryd.prog 41 #[.pointer (some ⟨B, 0, none⟩), .int .i64 (n : Int)] w fun e w' => e = .panicked keyPanic ∧ w = w' :=
  take_none B (strL t) n w h (by rw [strL_size]; exact hn) hx

/-- What a read is left with. -/
def ReadK (T B : Nat) (k : Int) (t : List UInt8) (w : World) (r : Option (Int × Int × List UInt8 × Nat)) (e : Ending) (w' : World) : Prop :=
  But T B w w' ∧ (match r with
    | some (i, u, s, n) => e = .returned (.tuple #[]) ∧ SBox w' T (strL (t.drop n)) ∧ VBox w' B k i u (strL s)
    | none => e = .panicked keyPanic ∧ ∃ i u s, VBox w' B k i u s)

theorem read_0 (T B : Nat) (k : Int) (t : List UInt8) (w : World) (hT : SBox w T (strL t)) (hB : VBox w B k 0 0 (strL [])) : Calls Tryd.prog 35 #[.pointer (some ⟨T, 0, none⟩), .pointer (some ⟨B, 0, none⟩)] w (ReadK T B k t w (some (0, 0, [], 0))) := by
  go_enter Tryd.func35, Tryd.ntmps35
  go_wp2
  go_end0
  exact ⟨But.refl _ _ _, rfl, hT, hB⟩

def readI (t : List UInt8) : Option (Int × Int × List UInt8 × Nat) := if t.length < 8 then none else some ((rdN (t.take 8) : Int) - 9223372036854775808, 0, [], 8)
set_option maxRecDepth 100000 in
theorem read_1 (T B : Nat) (k : Int) (t : List UInt8) (w : World) (hne : T ≠ B) (hT : SBox w T (strL t)) (hB : VBox w B k 0 0 (strL [])) (hl : t.length ≤ maxLen) : Calls Tryd.prog 39 #[.pointer (some ⟨T, 0, none⟩), .pointer (some ⟨B, 0, none⟩)] w (ReadK T B k t w (readI t)) := by
  unfold readI
  by_cases h8 : t.length < 8
  · rw [if_pos h8]
    go_enter Tryd.func39, Tryd.ntmps39
    go_wp2_with (go_at_call 41; refine (take_no T t 8 _ hT h8 (by decide)).mono ?_; rintro e w' ⟨rfl, rfl⟩)
    exact ⟨rfl, But.refl _ _ _, rfl, _, _, _, hB⟩
  · rw [if_neg h8]
    obtain ⟨c, w2, hcv, hrd, hb2, _⟩ := conv_str (P := Tryd.prog) 9 52 5 Tryd.underlying9 Tryd.underlying52 Tryd.underlying5 (w.setCell ⟨T, 0, none⟩ (.string (strL (t.drop 8)))) (t.take 8) (by simp; unfold maxLen; omega)
    have hl8 : (t.take 8).length = 8 := by simp; omega
    have hsz : (w.setCell ⟨T, 0, none⟩ (.string (strL (t.drop 8)))).heap.size = w.heap.size := by simp
    rw [hl8, hsz] at hcv hrd
    clear hsz
    have hrf : readFixN (t.take 8) = (rdN (t.take 8), 0) := by unfold readFixN; rw [if_neg (by omega)]
    have hlt := rdN_lt (t.take 8)
    rw [hl8] at hlt
    have hT2 := (hT.set (strL (t.drop 8))).below hb2
    have hB1 := hB.other (B' := T) (o := 0) (Ne.symm hne) (.string (strL (t.drop 8)))
    have hB2 := hB1.below hb2 hB1.lt
    have hBu := (But.setT (T := T) (B := B) w 0 (.string (strL (t.drop 8)))).trans (But.of_below hb2)
    have hci := hB2.cells
    have hfi := hB2.frozen 1
    have hRF : Calls Tryd.prog 40 #[.slice (some ⟨w.heap.size, 0, none⟩) 8 c] w2 fun e w' => e = .returned (.tuple #[.int .u64 (rdN (t.take 8) : Int), .int .i64 0]) ∧ w2 = w' := by
      have h := ReadFixed_any _ _ _ _ w2 hrd
      rw [hrf] at h
      exact h
    have hlt2 : rdN (t.take 8) < 18446744073709551616 := hlt
    generalize rdN (t.take 8) = n at *
    clear hB1 hlt hrf
    replace hRF := Lib.hid hRF
    go_enter Tryd.func39, Tryd.ntmps39
    go_wp2_with (first
      | (go_at_call 41; refine (take_l T t 8 _ hT (by omega) hl).mono ?_; rintro e w' ⟨rfl, rfl⟩)
      | (go_at_call 40; refine hRF.out.mono ?_; rintro e w' ⟨rfl, rfl⟩)
      | (go_at_call 42; refine (turned_ui _ _ (by omega) (by omega)).mono ?_; rintro e w' ⟨rfl, rfl⟩))
    go_end0
    exact ⟨hBu.trans (But.setB _ _ _), rfl, hT2.other hne _, hB2.setI _⟩
def readU (t : List UInt8) : Option (Int × Int × List UInt8 × Nat) := if (readN t).2.2 ≠ 0 then none else some (0, ((readN t).1 : Int), [], (readN t).2.1)
set_option maxRecDepth 100000 in
theorem read_2 (T B : Nat) (k : Int) (t : List UInt8) (w : World) (hne : T ≠ B) (hT : SBox w T (strL t)) (hB : VBox w B k 0 0 (strL [])) (hl : t.length ≤ maxLen) : Calls Tryd.prog 45 #[.pointer (some ⟨T, 0, none⟩), .pointer (some ⟨B, 0, none⟩)] w (ReadK T B k t w (readU t)) := by
  unfold readU
  obtain ⟨c, w2, hcv, hrd, hb2, _⟩ := conv_str (P := Tryd.prog) 91 52 5 Tryd.underlying91 Tryd.underlying52 Tryd.underlying5 w t hl
  have hT0 := hT.cells
  by_cases h0 : (readN t).2.2 ≠ 0
  · rw [if_pos h0]
    have hd : (((readN t).2.2 : Int) == 0) = false := by simpa using h0
    go_enter Tryd.func45, Tryd.ntmps45
    go_wp2_with (first
      | (go_at_call 46; refine (ReadNumber_any _ _ _ _ _ hrd).mono ?_; rintro e W3 ⟨rfl, hb3⟩)
      | (go_at_call 47; refine (must_false _).mono ?_; rintro e w' ⟨rfl, rfl⟩))
    exact ⟨rfl, (But.of_below hb2).trans (But.of_below hb3), rfl, _, _, _, (hB.below hb2 hB.lt).below hb3 (Nat.lt_of_lt_of_le hB.lt hb2.size)⟩
  · rw [if_neg h0]
    have hd : (((readN t).2.2 : Int) == 0) = true := by simpa using h0
    have hsp : (readN t).2.1 ≤ t.length ∧ (readN t).1 < 18446744073709551616 := by
      rcases readN_spec t with h | ⟨x, m, h, h1, h2, _, h3⟩
      · rw [h] at h0; exact absurd (by decide) h0
      · rw [h]; exact ⟨h2, h3⟩
    go_enter Tryd.func45, Tryd.ntmps45
    go_wp2_with (first
      | (go_at_call 46; refine (ReadNumber_any _ _ _ _ _ hrd).mono ?_; rintro e W3 ⟨rfl, hb3⟩)
      | (go_at_call 47; refine (must_true _).mono ?_; rintro e w' ⟨rfl, rfl⟩)
      | fail)
    have hT3 := (hT.below hb2).below hb3
    have hB3 := (hB.below hb2 hB.lt).below hb3 (Nat.lt_of_lt_of_le hB.lt hb2.size)
    have hB4 := hB3.other (B' := T) (o := 0) (Ne.symm hne) (.string (strL (t.drop (readN t).2.1)))
    have hci := hB4.cells
    have hfi := hB4.frozen 2
    refine (take_l T t (readN t).2.1 _ hT3 hsp.1 hl).mono ?_
    rintro e w' ⟨rfl, rfl⟩
    go_wp2
    go_end0
    exact ⟨(((But.of_below hb2).trans (But.of_below hb3)).trans (But.setT _ _ _)).trans (But.setB _ _ _), rfl, (hT3.set _).other hne _, hB4.setU _⟩
def readB (t : List UInt8) : Option (Int × Int × List UInt8 × Nat) := match t with
  | [] => none
  | b :: _ => if 1 < b.toNat then none else some ((b.toNat : Int), 0, [], 1)
set_option maxRecDepth 100000 in
theorem read_3 (T B : Nat) (k : Int) (t : List UInt8) (w : World) (hne : T ≠ B) (hT : SBox w T (strL t)) (hB : VBox w B k 0 0 (strL [])) (hl : t.length ≤ maxLen) : Calls Tryd.prog 49 #[.pointer (some ⟨T, 0, none⟩), .pointer (some ⟨B, 0, none⟩)] w (ReadK T B k t w (readB t)) := by
  unfold readB
  cases t with
  | nil =>
    go_enter Tryd.func49, Tryd.ntmps49
    go_wp2_with (go_at_call 41; refine (take_no T [] 1 _ hT (by decide) (by decide)).mono ?_; rintro e w' ⟨rfl, rfl⟩)
    exact ⟨rfl, But.refl _ _ _, rfl, _, _, _, hB⟩
  | cons b t =>
    have hB1 := hB.other (B' := T) (o := 0) (Ne.symm hne) (.string (strL t))
    have hci := hB1.cells.2.1
    have hfi := hB1.frozen 1
    have hT1 := hT.set (strL t)
    have hB2 := hB1.setI (b.toNat : Int)
    have hci2 := hB2.cells.2.1
    have hb0 : ∀ h, (strL [b])[0]'h = b := fun _ => rfl
    have hbs : (strL [b]).size = 1 := rfl
    have hw : wrap64 (b.toNat : Int) = (b.toNat : Int) := by have := b.toNat_lt; unfold wrap64; omega
    have hfin : But T B w ((w.setCell ⟨T, 0, none⟩ (.string (strL t))).setCell ⟨B, 1, none⟩ (.int .i64 (b.toNat : Int))) := (But.setT _ _ _).trans (But.setB _ _ _)
    have hT2 := hT1.other hne (B' := B) (o := 1) (.int .i64 (b.toNat : Int))
    by_cases hb : 1 < b.toNat
    · simp only [if_pos hb]
      have hd : decide ((b.toNat : Int) ≤ 1) = false := by simp; omega
      go_enter Tryd.func49, Tryd.ntmps49
      go_wp2_with (first
        | (go_at_call 41; refine (take_l T (b :: t) 1 _ hT (by simp) hl).mono ?_; rintro e w' ⟨rfl, rfl⟩)
        | (go_at_call 47; refine (must_false _).mono ?_; rintro e w' ⟨rfl, rfl⟩))
      exact ⟨rfl, hfin, rfl, _, _, _, hB2⟩
    · simp only [if_neg hb]
      have hd : decide ((b.toNat : Int) ≤ 1) = true := by simp; omega
      go_enter Tryd.func49, Tryd.ntmps49
      go_wp2_with (first
        | (go_at_call 41; refine (take_l T (b :: t) 1 _ hT (by simp) hl).mono ?_; rintro e w' ⟨rfl, rfl⟩)
        | (go_at_call 47; refine (must_true _).mono ?_; rintro e w' ⟨rfl, rfl⟩))
      go_end0
      exact ⟨hfin, rfl, hT2, hB2⟩
end Go.Proofs.YtdgmhegcoogokaaDoor
