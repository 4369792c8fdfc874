/- The reference's read: bytes, group by group. -/
import Derived.Test.YtdgmhegcoogokaaDoorKeyF
import Derived.Test.YtdgmhegcoogokaaDoorKeyH
import Derived.Test.YtdgmhegcoogokaaDoorKeyW
namespace Go.Proofs.YtdgmhegcoogokaaDoor
open Go.RowKit
set_option linter.unusedVariables false

def resG (t : List UInt8) : Vl × Nat := match readG [] t with
  | some r => (⟨4, 0, 0, r.1⟩, 1 + r.2)
  | none => (zeroV, 0)
def ReadPV (w : World) (r : Vl × Nat) (e : Ending) (w' : World) : Prop :=
  e = .returned (.tuple #[r.1.val, .int .i64 (r.2 : Int)]) ∧ Below w.heap.size w w'

theorem results_cellV {fn : Func} {s r : Tmp} (h : fn.results = #[.cell s 42, .tmp r]) (tmps : Array Value) (w : World) {B : Nat} {k i u : Int} {x : ByteArray} (hs : tmps.getD s undef = .pointer (some ⟨B, 0, none⟩)) (hV : VBox w B k i u x) :
    (results fn tmps).run Tryd.prog w = .ok (.tuple #[valV k i u x, tmps.getD r undef]) w := by
  have hc := hV.cells
  rw [Array.getD_eq_getD_getElem?] at hs
  simp [results, h, hs, go_sem, hc]
  rfl
theorem VBox.put {W : World} {B : Nat} {k i u : Int} {s : ByteArray} (h : VBox W B k i u s) (k' i' u' : Int) (s' : ByteArray) :
    VBox ((((W.setCell ⟨B, 0, none⟩ (.int .i64 k')).setCell ⟨B, 1, none⟩ (.int .i64 i')).setCell ⟨B, 2, none⟩ (.int .u64 u')).setCell ⟨B, 3, none⟩ (.string s')) B k' i' u' s' := (((h.setK k').setI i').setU u').setS s'
theorem below_put {base : Nat} {w W : World} (h : Below base w W) {B : Nat} (hB : base ≤ B) (k' i' u' : Int) (s' : ByteArray) :
    Below base w ((((W.setCell ⟨B, 0, none⟩ (.int .i64 k')).setCell ⟨B, 1, none⟩ (.int .i64 i')).setCell ⟨B, 2, none⟩ (.int .u64 u')).setCell ⟨B, 3, none⟩ (.string s')) :=
  (((h.setCell (p := ⟨B, 0, none⟩) hB _).setCell (p := ⟨B, 1, none⟩) hB _).setCell (p := ⟨B, 2, none⟩) hB _).setCell (p := ⟨B, 3, none⟩) hB _

theorem pad_iff (l : List UInt8) (n : Nat) (h8 : l.length = 8) (hn : n ≤ 8) : l.take n ++ List.replicate (8 - n) 0 = l ↔ ∀ k, n ≤ k → k < 8 → l[k]? = some 0 := by
  constructor
  · intro h k h1 h2
    rw [← h, List.getElem?_append_right (by simp; omega), List.getElem?_replicate]
    rw [if_pos (by simp; omega)]
  · intro h
    apply List.ext_getElem?
    intro k
    by_cases hk : k < n
    · rw [List.getElem?_append_left (by simp; omega), List.getElem?_take, if_pos hk]
    · rw [List.getElem?_append_right (by simp; omega), List.getElem?_replicate]
      by_cases hk8 : k < 8
      · rw [if_pos (by simp; omega), h k (by omega) hk8]
      · rw [if_neg (by simp; omega), List.getElem?_eq_none (by omega)]
theorem strL_sub (l : List UInt8) (lo hi : Nat) : (strL l).extract lo hi = strL ((l.drop lo).take (hi - lo)) := by
  unfold strL
  apply ByteArray.ext
  rw [ByteArray.data_extract]
  simp
theorem strL_get (l : List UInt8) (i : Nat) (h : i < (strL l).size) (h2 : i < l.length) : (strL l)[i]'h = l[i]'h2 := rfl
attribute [local go_sem] strL_toList strL_size
set_option maxRecDepth 100000 in
set_option maxHeartbeats 2000000 in
theorem rread_any (b : UInt8) (t : List UInt8) (w : World) (hl : t.length ≤ 5000) :
    Calls Tryd.prog 28 #[.string (strL (b :: t)), .agg #[.int .i64 4, .int .i64 0, .int .u64 0, .string ByteArray.empty]] w (ReadPV w (resG t)) := by
  have hsz : (strL (b :: t)).size = t.length + 1 := strL_size _
  go_enter Tryd.func28, Tryd.ntmps28
  go_wp2
  go_loopw [6] (fun o wr => ∃ (j : Nat) (out : List UInt8), o = .int .i64 ((j : Int) + 1) ∧ j ≤ t.length ∧ out.length ≤ 208 ∧ Below w.heap.size w wr ∧ VBox wr w.heap.size 4 0 0 (strL out) ∧ VBox wr (w.heap.size + 1) 0 0 0 (strL []) ∧
      ((out.length ≤ 200 ∧ readG [] t = (readG out (t.drop j)).map (fun r => (r.1, r.2 + j))) ∨ (200 < out.length ∧ readG [] t = none)))
    (fun o wr => t.length + 10 - (intOf o).toNat)
  case atStart =>
    refine ⟨0, [], rfl, by omega, by simp, ?_, ?_, ?_, .inl ⟨by simp, by simp⟩⟩
    · exact ((Below.refl _ w).alloc (Nat.le_refl _) _).alloc (by simp) _
    · exact (VBox.new w 4 0 0 (strL [])).below ((Below.refl _ _).alloc (Nat.le_refl _) _) (by simp)
    · have h := VBox.new (w.alloc (.cells #[.int .i64 4, .int .i64 0, .int .u64 0, .string ByteArray.empty] 42)) 0 0 0 (strL [])
      rw [show (w.alloc (.cells #[.int .i64 4, .int .i64 0, .int .u64 0, .string ByteArray.empty] 42)).heap.size = w.heap.size + 1 from by simp] at h
      exact h
  case round =>
    obtain ⟨j, out, rfl, hj, ho8, hB, hV, hR, hcase⟩ := hrel
    have hVl := hV.lt
    have hRl := hR.lt
    have hVc := hV.cells
    have hRc := hR.cells
    have hRf := hR.frozen
    by_cases h9 : (t.drop j).length < 9
    · have hN : resG t = (zeroV, 0) := by
        have : readG [] t = none := by
          rcases hcase with ⟨_, h⟩ | ⟨_, h⟩
          · rw [h, readG, dif_pos h9]
            rfl
          · exact h
        unfold resG
        rw [this]
      have hd : decide ((j : Int) + 1 + 9 ≤ (t.length : Int) + 1) = false := by simp at h9 ⊢; omega
      go_wp2
      refine bodyPost_ret (results_cellV rfl _ _ rfl (hR.put 0 0 0 ByteArray.empty)) rfl ⟨?_, below_put hB (by omega) _ _ _ _⟩
      rw [hN]
      rfl
    · have hd : decide ((j : Int) + 1 + 9 ≤ (t.length : Int) + 1) = true := by simp at h9 ⊢; omega
      rcases hcase with ⟨h200, hrec⟩ | ⟨h200, hrec⟩
      · obtain ⟨g0, g1, g2, g3, g4, g5, g6, g7, g8, rest, hg⟩ := nine (t.drop j) (by omega)
        have hd2 : decide ((out.length : Int) ≤ 200) = true := by simp; omega
        have hrl : rest.length + 9 = t.length - j := by
          have := congrArg List.length hg
          simp at this
          omega
        have hrest : t.drop (j + 9) = rest := by rw [← List.drop_drop, hg]; rfl
        have hget : ∀ k (h : k < 9), (b :: t)[j + 1 + k]? = [g0, g1, g2, g3, g4, g5, g6, g7, g8][k]? := by
          intro k hk
          rw [show j + 1 + k = (j + k) + 1 from by omega, List.getElem?_cons_succ, ← List.getElem?_drop, hg]
          have : g0 :: g1 :: g2 :: g3 :: g4 :: g5 :: g6 :: g7 :: g8 :: rest = [g0, g1, g2, g3, g4, g5, g6, g7, g8] ++ rest := rfl
          rw [this, List.getElem?_append_left (by simpa using hk)]
        rw [hg, readG9] at hrec
        have hgl : ∀ k g (h : k < 9), [g0, g1, g2, g3, g4, g5, g6, g7, g8][k]? = some g → ∀ h, (strL (b :: t))[j + 1 + k]'h = g := by
          intro k g hk he h
          have h2 := (hget k hk).trans he
          obtain ⟨h3, h4⟩ := List.getElem?_eq_some_iff.1 h2
          rw [strL_get (b :: t) (j + 1 + k) h h3]
          exact h4
        have h8 := hgl 8 g8 (by omega) rfl
        have hw64 : True → wrap64 (g8.toNat : Int) = (g8.toNat : Int) := fun _ => by have := g8.toNat_lt; unfold wrap64; omega
        by_cases hn9 : 9 < g8.toNat
        · have hN : resG t = (zeroV, 0) := by
            rw [if_pos hn9] at hrec
            unfold resG
            rw [hrec]
            rfl
          have hd3 : decide ((9 : Int) < (g8.toNat : Int)) = true := by simp; omega
          clear hget hgl hg
          replace hrec := Lib.hid hrec
          go_wp2
          refine bodyPost_ret (results_cellV rfl _ _ rfl (hR.put 0 0 0 ByteArray.empty)) rfl ⟨?_, below_put hB (by omega) _ _ _ _⟩
          rw [hN]
          rfl
        have hd3 : decide ((9 : Int) < (g8.toNat : Int)) = false := by simp; omega
        rw [if_neg hn9] at hrec
        obtain ⟨q, hq⟩ : ∃ q, min g8.toNat 8 = q := ⟨_, rfl⟩
        have hmin : min (g8.toNat : Int) 8 = (q : Int) := by omega
        rw [hq] at hrec
        have hex : (strL (b :: t)).extract (j + 1) (j + 1 + q) = strL ([g0, g1, g2, g3, g4, g5, g6, g7].take q) := by
          rw [strL_sub, List.drop_succ_cons, show j + 1 + q - (j + 1) = q from by omega, hg]
          have : g0 :: g1 :: g2 :: g3 :: g4 :: g5 :: g6 :: g7 :: g8 :: rest = [g0, g1, g2, g3, g4, g5, g6, g7] ++ g8 :: rest := rfl
          rw [this, List.take_append_of_le_length (by simp; omega)]
        obtain ⟨tk, htk⟩ : ∃ tk, [g0, g1, g2, g3, g4, g5, g6, g7].take q = tk := ⟨_, rfl⟩
        have htl : tk.length = q := by rw [← htk]; simp; omega
        obtain ⟨out2, ho2⟩ : ∃ o, out ++ tk = o := ⟨_, rfl⟩
        have hap : strL out ++ strL tk = strL out2 := by rw [strL_app, ho2]
        have hol : out2.length = out.length + q := by rw [← ho2]; simp [htl]
        rw [htk] at hex hrec
        rw [ho2] at hrec
        replace hrec := Lib.hid hrec
        replace hg := Lib.hid hg
        replace hgl := Lib.hid hgl
        have hq8 : q ≤ 8 := by omega
        clear hget ho2 htk
        have hwr : True → IntKind.i64.wrap ((j : Int) + 1 + (q : Int)) = (j : Int) + 1 + (q : Int) := fun _ => by
          rw [IntKind.wrap_i64]
          omega
        have hsl : ∀ W, (Instr.slice 9 (.string (strL (b :: t))) (some (.int .i64 ((j : Int) + 1))) (some (.int .i64 ((j : Int) + 1 + (q : Int)))) none).run Tryd.prog W = .ok (.string (strL tk)) W := fun W => by
          have h1 : j + 1 + q ≤ t.length + 1 := by simp at h9; omega
          clear hw64 hwr
          unfold Instr.slice Instr.sliceBounds Instr.sliceBound
          simp [go_sem, Sem.run_bind, asIntOf]
          rw [if_pos (by omega), if_pos (by omega), show ((j : Int) + 1 + (q : Int)).toNat = j + 1 + q from by omega, hex]
        have hn : ¬ 9223372036854775807 < out.length + q := by omega
        go_wp2
        clear hw64
        refine wp_region_noPanic ?_
        refine wp_region_held_drew (S := fun w' => True) (by kernel_rfl) trivial (fun hHeld => ?_)
        have hVf := hV.frozen 3
        refine wpAnyH_takeL (i := 0) (v := ?vhy1) rfl (by kernel_rfl) (by kernel_rfl) (by kernel_rfl) (fun _ _ _ h => h) (Or.inl ⟨by rfl, ?hy1⟩) (by assumption) ?rhy1
        case hy1 => ((intro w hSw; (try dsimp only at hSw); go_simp); try with_reducible rfl)
        try simp only [Act.put, List.setIfInBounds_toArray, List.set_cons_zero, List.set_cons_succ]
        refine wpAnyH_takeL (i := 2) (v := ?vhy2) rfl (by kernel_rfl) (by kernel_rfl) (by kernel_rfl) (fun _ _ _ h => h) (Or.inl ⟨by rfl, ?hy2⟩) (by assumption) ?rhy2
        case hy2 => ((intro w hSw; (try dsimp only at hSw); go_simp); try with_reducible rfl)
        try simp only [Act.put, List.setIfInBounds_toArray, List.set_cons_zero, List.set_cons_succ]
        refine wpAnyH_takeL (i := 3) (v := ?vhy3) rfl (by kernel_rfl) (by kernel_rfl) (by kernel_rfl) (fun _ _ _ h => h) (Or.inl ⟨by rfl, ?hy3⟩) (by assumption) ?rhy3
        case hy3 => ((intro w hSw; (try dsimp only at hSw); go_simp); try with_reducible rfl)
        try simp only [Act.put, List.setIfInBounds_toArray, List.set_cons_zero, List.set_cons_succ]
        refine wpAnyH_takeL (i := 4) (v := ?vhy4) rfl (by kernel_rfl) (by kernel_rfl) (by kernel_rfl) (fun _ _ _ h => h) (Or.inl ⟨by rfl, ?hy4⟩) (by assumption) ?rhy4
        case hy4 => ((intro w hSw; (try dsimp only at hSw); go_simp); try with_reducible rfl)
        try simp only [Act.put, List.setIfInBounds_toArray, List.set_cons_zero, List.set_cons_succ]
        refine wpAnyH_takeL (i := 5) (v := ?vhy5) rfl (by kernel_rfl) (by kernel_rfl) (by kernel_rfl) (fun _ _ _ h => h) (Or.inl ⟨by rfl, ?hy5⟩) (by assumption) ?rhy5
        case hy5 => ((intro w hSw; (try dsimp only at hSw); go_simp); try with_reducible rfl)
        try simp only [Act.put, List.setIfInBounds_toArray, List.set_cons_zero, List.set_cons_succ]
        refine wpAnyH_takeL (i := 6) (v := ?vhy6) rfl (by kernel_rfl) (by kernel_rfl) (by kernel_rfl) (fun _ _ _ h => h) (Or.inl ⟨by rfl, ?hy6⟩) (by assumption) ?rhy6
        case hy6 => ((intro w hSw; (try dsimp only at hSw); go_simp); try with_reducible rfl)
        try simp only [Act.put, List.setIfInBounds_toArray, List.set_cons_zero, List.set_cons_succ]
        refine wpAnyH_takeL (i := 7) (v := ?vhy7) rfl (by kernel_rfl) (by kernel_rfl) (by kernel_rfl) (fun _ _ _ h => h) (Or.inl ⟨by rfl, ?hy7⟩) (by assumption) ?rhy7
        case hy7 => ((intro w hSw; (try dsimp only at hSw); go_simp); try with_reducible rfl)
        try simp only [Act.put, List.setIfInBounds_toArray, List.set_cons_zero, List.set_cons_succ]
        refine wpAnyH_takeL (i := 8) (v := ?vhy8) rfl (by kernel_rfl) (by kernel_rfl) (by kernel_rfl) (fun _ _ _ h => h) (Or.inl ⟨by rfl, ?hy8⟩) (by assumption) ?rhy8
        case hy8 => ((intro w hSw; (try dsimp only at hSw); go_simp); try with_reducible rfl)
        try simp only [Act.put, List.setIfInBounds_toArray, List.set_cons_zero, List.set_cons_succ]
        refine wpAnyH_ready (rs := [1]) (by kernel_rfl) (by simp) ?_
        refine AllReadyH.consL (i := 1) rfl (fun K hK => ?_) AllReadyH.nil
        go_simp
        refine hK.out _ _ trivial (fun hHeld => ?_)
        clear hK
        try simp only [Act.put, List.setIfInBounds_toArray, List.set_cons_zero, List.set_cons_succ]
        refine wpAnyH_takeL (i := 9) (v := ?vhy9) rfl (by kernel_rfl) (by kernel_rfl) (by kernel_rfl) (fun _ _ _ h => h) (Or.inl ⟨by rfl, ?hy9⟩) (by assumption) ?rhy9
        case hy9 => ((intro w hSw; (try dsimp only at hSw); go_simp); try with_reducible rfl)
        try simp only [Act.put, List.setIfInBounds_toArray, List.set_cons_zero, List.set_cons_succ]
        refine wpAnyH_takeL (i := 10) (v := ?vhy10) rfl (by kernel_rfl) (by kernel_rfl) (by kernel_rfl) (fun _ _ _ h => h) (Or.inl ⟨by rfl, ?hy10⟩) (by assumption) ?rhy10
        case hy10 => ((intro w hSw; (try dsimp only at hSw); go_simp); try with_reducible rfl)
        try simp only [Act.put, List.setIfInBounds_toArray, List.set_cons_zero, List.set_cons_succ]
        refine wpAnyH_ready (rs := [11]) (by kernel_rfl) (by simp) ?_
        refine AllReadyH.consL (i := 11) rfl (fun K hK => ?_) AllReadyH.nil
        go_simp
        refine hK.out _ _ trivial (fun hHeld => ?_)
        clear hK
        try simp only [Act.put, List.setIfInBounds_toArray, List.set_cons_zero, List.set_cons_succ]
        refine wpAnyH_done (by kernel_rfl) ?_ _
        refine NoPanic.normal ?_
        have hV2 : VBox ((wr.setCell ⟨w.heap.size, 3, none⟩ (.string (strL out2))).drew) w.heap.size 4 0 0 (strL out2) := (hV.setS (strL out2)).drew
        have hR2 : VBox ((wr.setCell ⟨w.heap.size, 3, none⟩ (.string (strL out2))).drew) (w.heap.size + 1) 0 0 0 (strL []) := (hR.other (B' := w.heap.size) (o := 3) (by omega) (.string (strL out2))).drew
        have hB2 : Below w.heap.size w ((wr.setCell ⟨w.heap.size, 3, none⟩ (.string (strL out2))).drew) := (hB.setCell (p := ⟨w.heap.size, 3, none⟩) (Nat.le_refl _) (.string (strL out2))).drew
        generalize ((wr.setCell ⟨w.heap.size, 3, none⟩ (.string (strL out2))).drew) = W at *
        clear hVc hRc hRf hV hR hB hVf hsl hap hex hHeld hwr hn
        have hVc := hV2.cells
        have hRc := hR2.cells
        have hRf := hR2.frozen
        by_cases h9n : g8.toNat = 9
        · have hd4 : ((g8.toNat : Int) == 9) = true := by simp [h9n]
          go_wp2
          refine ⟨⟨j + 9, out2, by simp; omega, by omega, by omega, hB2, hV2, hR2, ?_⟩, by simp [intOf]; omega⟩
          have hrec := hrec.out
          rw [if_pos h9n] at hrec
          by_cases h2 : 200 < out2.length
          · rw [if_pos h2] at hrec
            exact .inr ⟨h2, hrec⟩
          · rw [if_neg h2] at hrec
            refine .inl ⟨by omega, ?_⟩
            rw [hrec, hrest, Option.map_map]
            congr 1
            funext r
            simp
            omega
        · have hd4 : ((g8.toNat : Int) == 9) = false := by simp; omega
          have hn8 : g8.toNat ≤ 8 := by omega
          obtain rfl : q = g8.toNat := by omega
          replace hrec := hrec.out
          rw [if_neg h9n] at hrec
          have hpad := pad_iff [g0, g1, g2, g3, g4, g5, g6, g7] g8.toNat rfl hn8
          have hgi9' := hgl.out
          replace hgi9' := Lib.hid hgi9'
          clear hgl hd2 hd3 hmin hq hn9 h9n hg
          generalize g8.toNat = n at *
          replace hpad := Lib.hid hpad
          replace hrec := Lib.hid hrec
          have hto : n = 0 → out2.length = out.length := fun h => by omega
          have hlo : j + 9 ≤ t.length := by omega
          go_wp2
          go_loopw [8] (fun p w2 => ∃ i : Nat, p = .int .i64 ((j : Int) + 1 + (i : Int)) ∧ n ≤ i ∧ i ≤ 8 ∧ w2 = W ∧ ∀ k, n ≤ k → k < i → [g0, g1, g2, g3, g4, g5, g6, g7][k]? = some 0)
            (fun p w2 => j + 20 - (intOf p).toNat)
          case atStart => exact ⟨n, rfl, by omega, by omega, rfl, fun k h1 h2 => by omega⟩
          case round =>
            obtain ⟨i, rfl, hi, hi8, rfl, hz⟩ := hrel
            by_cases hlt : i < 8
            · have hd5 : decide ((j : Int) + 1 + (i : Int) < (j : Int) + 1 + 8) = true := by simp; omega
              obtain ⟨g, hgi⟩ : ∃ g, [g0, g1, g2, g3, g4, g5, g6, g7][i]? = some g := by
                rw [List.getElem?_eq_getElem (by simpa using hlt)]
                exact ⟨_, rfl⟩
              have hgi9 : [g0, g1, g2, g3, g4, g5, g6, g7, g8][i]? = some g := by
                have : [g0, g1, g2, g3, g4, g5, g6, g7, g8] = [g0, g1, g2, g3, g4, g5, g6, g7] ++ [g8] := rfl
                rw [this, List.getElem?_append_left (by simpa using hlt)]
                exact hgi
              have hix := hgi9'.out i g (by omega) hgi9
              clear hgi9
              have hit : j + 1 + i < t.length + 1 := by omega
              by_cases hg0 : g = 0
              · subst hg0
                replace hgi := Lib.hid hgi
                replace hz := Lib.hid hz
                go_wp2
                refine ⟨⟨i + 1, by simp; omega, by omega, by omega, by simp, fun k h1 h2 => ?_⟩, by simp [intOf]; omega⟩
                by_cases hk : k = i
                · rw [hk]; exact hgi.out
                · exact hz.out k h1 (by omega)
              · have hN : resG t = (zeroV, 0) := by
                  have hno : readG [] t = none := by
                    rw [hrec.out]
                    by_cases h2 : 200 < out2.length
                    · rw [if_pos h2]; rfl
                    · rw [if_neg h2, if_neg]
                      · rfl
                      · rintro ⟨h3, _⟩
                        have := (hpad.out.1 h3) i hi hlt
                        rw [hgi] at this
                        exact hg0 (Option.some.inj this)
                  unfold resG
                  rw [hno]
                have hg0' : ((g.toNat : Int) != 0) = true := by
                  have : g.toNat ≠ 0 := fun e => hg0 (UInt8.toNat_inj.1 e)
                  simp
                  exact this
                clear hgi hz
                go_wp2
                refine bodyPost_ret (results_cellV rfl _ _ rfl (hR2.put 0 0 0 ByteArray.empty)) rfl ⟨?_, below_put hB2 (by omega) _ _ _ _⟩
                try rw [hN]
                rfl
            · have hd5 : decide ((j : Int) + 1 + (i : Int) < (j : Int) + 1 + 8) = false := by simp; omega
              have hp := hpad.out.2 (fun k h1 h2 => hz k h1 (by omega))
              by_cases h2 : 200 < out2.length
              · have hd6 : decide ((200 : Int) < (out2.length : Int)) = true := by simp; omega
                have hN : resG t = (zeroV, 0) := by
                  unfold resG
                  rw [hrec.out, if_pos h2]
                  rfl
                clear hz hp
                go_wp2
                refine bodyPost_ret (results_cellV rfl _ _ rfl (hR2.put 0 0 0 ByteArray.empty)) rfl ⟨?_, below_put hB2 (by omega) _ _ _ _⟩
                try rw [hN]
                rfl
              have hd6 : decide ((200 : Int) < (out2.length : Int)) = false := by simp; omega
              have hrec := hrec.out
              rw [if_neg h2] at hrec
              by_cases h3 : n = 0 ∧ 0 < out2.length
              · have hd7 : ((n : Int) == 0) = true := by simp; omega
                have hd8 : decide ((0 : Int) < (out2.length : Int)) = true := by simp; omega
                have hN : resG t = (zeroV, 0) := by
                  rw [if_neg (fun h => by
                    rcases h.2 with h | h
                    · omega
                    · rw [h] at hol
                      simp at hol
                      omega)] at hrec
                  unfold resG
                  rw [hrec]
                  rfl
                clear hz hp hrec
                go_wp2
                refine bodyPost_ret (results_cellV rfl _ _ rfl (hR2.put 0 0 0 ByteArray.empty)) rfl ⟨?_, below_put hB2 (by omega) _ _ _ _⟩
                try rw [hN]
                rfl
              · have hN : resG t = (⟨4, 0, 0, out2⟩, 1 + (9 + j)) := by
                  rw [if_pos ⟨hp, by
                    by_cases h0 : 0 < n
                    · exact .inl h0
                    · refine .inr (List.eq_nil_of_length_eq_zero ?_)
                      omega⟩] at hrec
                  unfold resG
                  rw [hrec]
                  rfl
                clear hz hp hrec
                have hpost : ∀ v, v = .int .i64 ((j : Int) + 1 + 9) → ReadPV w (resG t) (.returned (.tuple #[valV 4 0 0 (strL out2), v])) _ := fun v e => by
                  subst e
                  rw [hN]
                  rw [show (j : Int) + 1 + 9 = ((1 + (9 + j) : Nat) : Int) from by omega]
                  exact ⟨rfl, below_put hB2 (Nat.le_succ w.heap.size) 4 0 0 (strL out2)⟩
                by_cases h0 : n = 0
                · have hd7 : ((n : Int) == 0) = true := by simp; omega
                  have hd8 : decide ((0 : Int) < (out2.length : Int)) = false := decide_eq_false (by omega)
                  go_wp2
                  exact bodyPost_ret (results_cellV rfl _ _ rfl (hR2.put 4 0 0 (strL out2))) rfl (hpost _ rfl)
                · have hd7 : ((n : Int) == 0) = false := by simp; omega
                  go_wp2
                  exact bodyPost_ret (results_cellV rfl _ _ rfl (hR2.put 4 0 0 (strL out2))) rfl (hpost _ rfl)
      · have hN : resG t = (zeroV, 0) := by
          unfold resG
          rw [hrec]
        have hd2 : decide ((out.length : Int) ≤ 200) = false := by simp; omega
        go_wp2
        refine bodyPost_ret (results_cellV rfl _ _ rfl (hR.put 0 0 0 ByteArray.empty)) rfl ⟨?_, below_put hB (by omega) _ _ _ _⟩
        rw [hN]
        rfl
end Go.Proofs.YtdgmhegcoogokaaDoor
