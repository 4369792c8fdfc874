/- key: bytes laid in groups. -/
import Derived.Test.YtdgmhegcoogokaaDoorChunk
import Derived.Test.YtdgmhegcoogokaaDoorKeyA
import Derived.Test.YtdgmhegcoogokaaDoorBox
import Derived.Test.YtdgmhegcoogokaaDoorRange
import Derived.Test.YtdgmhegcoogokaaDoorConv
import Derived.BigRegionIn
import Derived.Test.YtdgmhegcoogokaaDoorVal2
import Derived.RangeFuncNested
namespace Go.Proofs.YtdgmhegcoogokaaDoor
open Go.RowKit
set_option linter.unusedVariables false

theorem AllReadyIn.consL {F : Fence} {m : Nat} {P : Program} {l : List Oper} {Q : Exit → Act → World → Prop} {md : Region.Mode} {fuel : Nat} {listed : Array Bool} {a : Act} {w : World} {i : Nat} {o : Oper} {tl : List Oper} {rs : List Nat} (ho : l.drop i = o :: tl)
    (h : ∀ K' : Act → World → Prop, (∀ a w, wpAnyIn F m P md l.toArray Q fuel (listed.setIfInBounds i true) a w → K' a w) → if Region.wanted o (yielded l.toArray a.tmps) = true then Oper.wpIn F m P o a w K' Q else (∀ f, o.about P w a.eval = some f → F.fn f) ∧ K' (a.put o.dst undef) w)
    (hs : AllReadyIn F m P md l.toArray Q fuel listed a w rs) : AllReadyIn F m P md l.toArray Q fuel listed a w (i :: rs) := AllReadyIn.cons (getElem?_of_drop ho) h hs
theorem stepI_skip {F : Fence} {m : Nat} {P : Program} {ops : Array Oper} {o : Oper} {a : Act} {w : World} {K : Act → World → Prop} {Q : Exit → Act → World → Prop} (hfn : ∀ f, F.fn f) (hw : Region.wanted o (yielded ops a.tmps) = true)
    {w' : World} (hrun : (o.semAt F.round a.eval).run P w = .ok .skip w') (h : K (a.put o.dst undef) w') :
    if Region.wanted o (yielded ops a.tmps) = true then Oper.wpIn F m P o a w K Q else (∀ f, o.about P w a.eval = some f → F.fn f) ∧ K (a.put o.dst undef) w := by
  rw [if_pos hw]
  exact ⟨fun f _ => hfn f, by rw [hrun]; exact h⟩
theorem stepI {F : Fence} {m : Nat} {P : Program} {ops : Array Oper} {o : Oper} {a : Act} {w : World} {K : Act → World → Prop} {Q : Exit → Act → World → Prop} (hfn : ∀ f, F.fn f) (hw : Region.wanted o (yielded ops a.tmps) = true)
    {v : Value} {w' : World} (hrun : (o.semAt F.round a.eval).run P w = .ok (.value v) w') (h : K (a.put o.dst v) w') :
    if Region.wanted o (yielded ops a.tmps) = true then Oper.wpIn F m P o a w K Q else (∀ f, o.about P w a.eval = some f → F.fn f) ∧ K (a.put o.dst undef) w := by
  rw [if_pos hw]
  exact ⟨fun f _ => hfn f, by rw [hrun]; exact h⟩

/-- Bytes in groups of eight, and what stands behind each. -/
def grpL (l : List UInt8) : List UInt8 :=
  if h : 8 < l.length then l.take 8 ++ 9 :: grpL (l.drop 8) else l ++ List.replicate (8 - l.length) 0 ++ [UInt8.ofNat l.length]
termination_by l.length
decreasing_by simp; omega
def tailG (l : List UInt8) : List UInt8 := if l = [] then [] else grpL l

theorem grp_step (t : List UInt8) (h : t ≠ []) : (t.take 8 ++ (List.replicate 9 (0 : UInt8)).drop (min 8 t.length)).set 8 (if 8 < t.length then 9 else UInt8.ofNat t.length) ++ tailG (t.drop 8) = tailG t := by
  conv => rhs; unfold tailG; rw [if_neg h]; unfold grpL
  by_cases h8 : 8 < t.length
  · rw [dif_pos h8, if_pos h8, Nat.min_eq_left (by omega)]
    have e1 : ((t.take 8 ++ (List.replicate 9 (0 : UInt8)).drop 8).set 8 9) = t.take 8 ++ [9] := by
      rw [List.set_append_right _ _ (by simp; omega)]
      simp
      rw [Nat.min_eq_left (by omega)]
      rfl
    have e2 : tailG (t.drop 8) = grpL (t.drop 8) := by
      unfold tailG
      rw [if_neg]
      intro e
      have := congrArg List.length e
      simp at this
      omega
    rw [e1, e2]
    simp
  · rw [dif_neg h8, if_neg h8, Nat.min_eq_right (by omega)]
    have e2 : t.drop 8 = [] := List.drop_eq_nil_of_le (by omega)
    rw [e2, List.take_of_length_le (by omega)]
    have e3 : (List.replicate 9 (0 : UInt8)).drop t.length = List.replicate (8 - t.length) 0 ++ [0] := by
      rw [List.drop_replicate, show 9 - t.length = (8 - t.length) + 1 from by omega, List.replicate_succ']
    rw [e3, ← List.append_assoc, List.set_append_right _ _ (by simp; omega)]
    have e4 : 8 - (t ++ List.replicate (8 - t.length) (0 : UInt8)).length = 0 := by simp; omega
    rw [e4]
    simp [tailG]
theorem starts_next {pre : List Nat} {x n : Nat} (h : pre ++ [x] <+: starts n) : x = 8 * pre.length := by
  obtain ⟨t, ht⟩ := h
  have h1 : (starts n)[pre.length]? = some x := by rw [← ht]; simp
  have h2 : pre.length < (n + 7) / 8 := by
    have := congrArg List.length ht
    rw [starts_len] at this
    simp at this
    omega
  rw [starts_at n _ h2] at h1
  injection h1 with h1
  exact h1.symm
theorem round_more {l out : List UInt8} {pre : List Nat} {x q : Nat} {z : Int} (hx : x = 8 * pre.length) (hlt : pre.length < (l.length + 7) / 8) (hm : min 8 (l.length - x) = q) (hq : (q : Int) < z)
    (hz1 : z = ((l.length - 8 * pre.length : Nat) : Int)) (hz2 : out ++ tailG (l.drop (8 * pre.length)) = tailG l) :
    z - (q : Int) = ((l.length - 8 * (pre ++ [x]).length : Nat) : Int) ∧ out ++ (((l.drop x).take 8 ++ (List.replicate 9 (0 : UInt8)).drop q).set 8 (UInt8.ofNat q)).set 8 9 ++ tailG (l.drop (8 * (pre ++ [x]).length)) = tailG l := by
  subst hx
  have hs := grp_step (l.drop (8 * pre.length)) (fun e => by have := congrArg List.length e; simp at this; omega)
  rw [List.length_drop, hm, if_pos (by omega), List.drop_drop] at hs
  refine ⟨by simp; omega, ?_⟩
  rw [← hz2, ← hs, List.set_set, List.append_assoc, List.length_append, List.length_singleton, Nat.mul_add, Nat.mul_one]
theorem round_last {l out : List UInt8} {pre : List Nat} {x q : Nat} {z : Int} (hx : x = 8 * pre.length) (hlt : pre.length < (l.length + 7) / 8) (hm : min 8 (l.length - x) = q) (hq : z ≤ (q : Int))
    (hz1 : z = ((l.length - 8 * pre.length : Nat) : Int)) (hz2 : out ++ tailG (l.drop (8 * pre.length)) = tailG l) :
    z - (q : Int) = ((l.length - 8 * (pre ++ [x]).length : Nat) : Int) ∧ out ++ (((l.drop x).take 8 ++ (List.replicate 9 (0 : UInt8)).drop q).set 8 (UInt8.ofNat q)) ++ tailG (l.drop (8 * (pre ++ [x]).length)) = tailG l := by
  subst hx
  have hs := grp_step (l.drop (8 * pre.length)) (fun e => by have := congrArg List.length e; simp at this; omega)
  rw [List.length_drop, hm, if_neg (by omega), List.drop_drop] at hs
  have hq2 : l.length - 8 * pre.length = q := by omega
  rw [hq2] at hs
  refine ⟨by simp; omega, ?_⟩
  rw [← hz2, ← hs, List.append_assoc, List.length_append, List.length_singleton, Nat.mul_add, Nat.mul_one]
theorem Ov.isCells {w : World} {base : Nat} {e : TypeId} {size : Nat} {A : Option Addr} {n c : Nat} {xs : List Value} (h : Ov w base e size A n c xs) : ∀ (j : Nat) (o : Obj), Go.Proofs.YtdgmhegcoogokaaDoor.ab A = some j → w.heap[j]? = some o → o.isCells = true := by
  intro j o hj ho
  rcases h.2 with ⟨hv, _⟩ | ⟨g, cap, cur, hv, _, hg', _⟩
  · injection hv with h5
    subst h5
    cases hj
  · injection hv with h5
    subst h5
    injection hj with hj
    have hj : g = j := hj
    subst hj
    rw [hg'] at ho
    injection ho with ho
    subst ho
    rfl

/-- What is laid behind so many groups. -/
def LaidI (w V : World) (l : List UInt8) (pre : List Nat) (W : World) : Prop :=
  ∃ A n c out, ∃ z : Int, (-(8 * (pre.length : Int)) ≤ z ∧ z ≤ (l.length : Int) ∧ out.length = 9 * pre.length ∧ (pre <+: starts l.length → z = ((l.length - 8 * pre.length : Nat) : Int) ∧ out ++ tailG (l.drop (8 * pre.length)) = tailG l)) ∧
    Boxed W (w.heap.size + 1) 52 (.slice A n c) ∧ Ob W V.heap.size 5 A n c out ∧
    Boxed W (w.heap.size + 1 + 1) 3 (.int .i64 z) ∧ Rng (w.heap.size + 3) V.heap.size V W ∧ Below w.heap.size w W

theorem LaidI.own (w V : World) (l : List UInt8) (H : Nat) (hH : V.heap.size ≤ H) (hV : w.heap.size + 3 ≤ V.heap.size) : OwnFrom H (LaidI w V l) := fun s X Y row hs hg hr => by
  obtain ⟨A, n, c, out, z, h1, h2, h3, h6, h7, h8⟩ := hs
  have hlt : ∀ r, row = some r → V.heap.size ≤ r := fun r e => Nat.le_trans hH (hr r e).1
  refine ⟨A, n, c, out, z, h1, ?_, ?_, ?_, ?_, ?_⟩
  · exact h2.kept hg (fun e => by have := hlt _ e.symm; omega)
  · refine Ov.grown h3 hg (fun b hb e => ?_)
    obtain ⟨o, ho, hc⟩ := (hr b e.symm).2
    rcases h3.2 with ⟨hv, _⟩ | ⟨g, cap, cur, hv, _, hg', _⟩
    · injection hv with h5
      subst h5
      cases hb
    · injection hv with h5
      subst h5
      injection hb with hb
      have hb : g = b := hb
      subst hb
      rw [hg'] at ho
      injection ho with ho
      subst ho
      cases hc
  · exact h6.kept hg (fun e => by have := hlt _ e.symm; omega)
  · exact Rng.own (β := Unit) V (Nat.le_refl _) hH () X Y row h7 hg hr
  · exact ownFrom_below (β := Unit) (Nat.le_refl _) (by omega) () X Y row h8 hg hr

attribute [local go_sem] Oper.semAt_some
set_option maxRecDepth 100000 in
set_option maxHeartbeats 2000000 in
theorem klaid_any (k i u : Int) (l : List UInt8) (w : World) (hl : l.length ≤ 300) : Calls Tryd.prog 50 #[valV k i u (strL l)] w (NewB w (grpL l)) := by
  unfold valV
  obtain ⟨c, w1, hconv, hrd, hb1, hz1⟩ := conv_str 9 52 5 Tryd.underlying9 Tryd.underlying52 Tryd.underlying5 (P := Tryd.prog) (((w.alloc (.cells #[.int .i64 k, .int .i64 i, .int .u64 u, .string (strL l)] 42)).alloc (.cells #[.slice none 0 0] 52)).alloc (.cells #[.int .i64 (l.length : Int)] 3)) l (by unfold maxLen; omega)
  simp only [World.size_alloc] at hconv hrd hb1 hz1
  have hsL := strL_size l
  refine callsIn_wide.1 (callsIn_of_wp_marks (n := 9) Tryd.func50 rfl trivial ?_ rfl)
  simp only [Tryd.ntmps50, List.size_toArray, List.length_cons, List.length_nil, Nat.reduceAdd, Nat.reduceSub, Array.replicate_succ, Array.replicate_zero, List.push_toArray, List.append_toArray, List.nil_append, List.cons_append]
  refine wpIn_wide.2 ?_
  go_wp2_with (go_at_call 73; refine (Chunk_any _ _ _ _).mono ?_; rintro e w' ⟨rfl, rfl⟩)
  have hbv : Below w.heap.size w w1 := ((((Below.refl _ w).alloc (Nat.le_refl _) _).alloc (by simp) _).alloc (by simp; omega) _).trans (hb1.mono (by omega))
  have hO : Boxed w1 (w.heap.size + 1) 52 (.slice none 0 0) := by
    refine box_below ?_ hb1 (by omega)
    have h := (Boxed.new (w.alloc (.cells #[.int .i64 k, .int .i64 i, .int .u64 u, .string (strL l)] 42)) 52 (.slice none 0 0)).alloc (.cells #[.int .i64 (l.length : Int)] 3)
    simpa using h
  have hL : Boxed w1 (w.heap.size + 1 + 1) 3 (.int .i64 (l.length : Int)) := by
    refine box_below ?_ hb1 (by omega)
    have h := Boxed.new ((w.alloc (.cells #[.int .i64 k, .int .i64 i, .int .u64 u, .string (strL l)] 42)).alloc (.cells #[.slice none 0 0] 52)) 3 (.int .i64 (l.length : Int))
    simpa using h
  clear hb1 hconv
  have hX := (Boxed.new w1 52 (.slice (some ⟨w.heap.size + 1 + 1 + 1, 0, none⟩) l.length c)).alloc (.cells #[.int .i64 8] 3)
  have hY := Boxed.new (w1.alloc (.cells #[.slice (some ⟨w.heap.size + 1 + 1 + 1, 0, none⟩) l.length c] 52)) 3 (.int .i64 8)
  have hbV : Below w1.heap.size w1 ((w1.alloc (.cells #[.slice (some ⟨w.heap.size + 1 + 1 + 1, 0, none⟩) l.length c] 52)).alloc (.cells #[.int .i64 8] 3)) := ((Below.refl _ w1).alloc (Nat.le_refl _) _).alloc (by simp) _
  have hsV : ((w1.alloc (.cells #[.slice (some ⟨w.heap.size + 1 + 1 + 1, 0, none⟩) l.length c] 52)).alloc (.cells #[.int .i64 8] 3)).heap.size = w.heap.size + 6 := by simp; omega
  rw [World.size_alloc] at hY
  rw [hz1] at hX hY
  generalize ((w1.alloc (.cells #[.slice (some ⟨w.heap.size + 1 + 1 + 1, 0, none⟩) l.length c] 52)).alloc (.cells #[.int .i64 8] 3)) = V at *
  have hrV : Rd V (some ⟨w.heap.size + 1 + 1 + 1, 0, none⟩) l.length c l := hrd.below hbV
  replace hO := box_in hO hbV
  replace hL := box_in hL hbV
  replace hbv := hbv.trans (hbV.mono hbv.size)
  clear hbV hz1 hrd
  have hsV2 : V.heap.size = w.heap.size + 1 + 1 + 1 + 1 + 1 + 1 := by omega
  have hsv : w.heap.size + 3 ≤ V.heap.size := by omega
  have hIV : LaidI w V l [] V := ⟨none, 0, 0, [], (l.length : Int), ⟨by simp, Int.le_refl _, rfl, fun _ => ⟨by simp, by simp⟩⟩, hO, Ov.nil _ _ _ _, hL, Rng.refl _ _ _, hbv⟩
  refine wp_rangeFunc_one 4 rfl (enters_of Tryd.func82 (by kernel_rfl) rfl) (fun i : Nat => .slice ((some (⟨w.heap.size + 1 + 1 + 1, 0, none⟩ : Addr)).map (·.add i)) (min 8 (l.length - i)) (min 8 (l.length - i)))
    (Chunk1_stops V (w.heap.size + 1 + 1 + 1 + 1) (w.heap.size + 1 + 1 + 1 + 1 + 1) _ l.length c l hX.cell hY.cell hrV (by omega) (w.heap.size + 3) V.heap.size (by omega) (by omega) (by omega) (by omega) (Nat.le_refl _) 8 V (Below.refl _ _))
    Rng.trans (Rng.putObj (Nat.le_refl _)) (Below.refl _ _) (LaidI w V l) (fun _ _ _ => False) (LaidI.own w V l _ (Nat.le_refl _) hsv) (fun c => fun _ _ _ _ h _ _ => h) hIV ?rassign ?rbody ?rdone ?rstop
  case rassign =>
    intro m x W K hK
    simp only [List.setIfInBounds_toArray, List.set_cons_zero, List.set_cons_succ] at hK ⊢
    gi_wp2
    exact hK
  case rstop => exact fun _ _ _ _ _ _ h _ => h.elim
  case rdone =>
    intro D xs W hD hxs hI hWD
    subst hxs
    obtain ⟨A, n, d, out, z, hz, hO, hOb, hL, hR, hB⟩ := hI
    have hlen := hOb.len
    have hou : out = tailG l := by
      have h := (hz.2.2.2 (List.prefix_refl _)).2
      rw [starts_len, List.drop_eq_nil_of_le (by omega)] at h
      simpa [tailG] using h
    have hO3 := (box_other hO (show w.heap.size + 1 ≠ w.heap.size + 1 + 1 by omega) : Boxed (W.setCell ⟨w.heap.size + 1 + 1, 0, none⟩ (.int .i64 0)) _ _ _)
    have hcO := hO.cell
    have hfO := hO.frozen
    by_cases h0 : l = []
    · have hn : n = 0 := by rw [← hlen, hou, if_pos h0 |> (fun h => (show tailG l = [] from h))]; rfl
      have hdn : ((n : Int) == 0) = true := by rw [hn]; rfl
      subst h0
      have hWs := hB.size
      go_wp2_with (at_make; refine wpList_make_b _ rfl _ _ 52 rfl 5 Tryd.underlying52 info_u8 w.heap.size .i64 .i64 _ _ 9 rfl rfl (by omega) (by omega) (by omega) hWs ?_; intro w2 hown2 hgrow2; have hO2 := hO.kept hgrow2 (by simp); have hcO2 := hO2.cell; have hfO2 := hO2.frozen)
      have hDl : D < W.heap.size := (Array.getElem?_eq_some_iff.1 hWD).1
      have k1 := (KeepsOthers.setCell w2 ⟨w.heap.size + 1, 0, none⟩ (.slice (some ⟨W.heap.size, 0, none⟩) 9 9)).same D _ ((hgrow2.block D hDl (by simp)).trans hWD) rfl
      have c1 := (hO2.set (.slice (some ⟨W.heap.size, 0, none⟩) 9 9)).cell
      have c2 := cell_kept c1 (grownBy_putObj' _ D (.deferred none)) (fun r e => by cases e; exact ⟨_, k1, rfl⟩)
      refine ⟨by simp, .inl ⟨_, _, rfl, run_takeDeferred k1, ?_⟩⟩
      refine ⟨.slice (some ⟨W.heap.size, 0, none⟩) 9 9, ?_, _, _, _, rfl, ?_, ((hB.grown hgrow2 hWs (fun k e => by cases e)).setCell (p := ⟨w.heap.size + 1, 0, none⟩) (by simp) _).trans (belowK_b (w := w) (Nat.le_refl _) _ D _ _ (by omega) k1 rfl rfl)⟩
      · simp [results, Tryd.f50, go_sem, c2]
      · have e0 : grpL ([] : List UInt8) = List.replicate 9 0 := by unfold grpL; rfl
        rw [e0]
        exact Ov.grown (Ov.grown hown2 (grownBy_setCell' w2 (w.heap.size + 1) _) (fun b hb e => by injection hb with hb; have e : b = w.heap.size + 1 := Option.some.inj e; have hb : W.heap.size = b := hb; omega)) (grownBy_putObj' _ D (.deferred none)) (fun b hb e => by injection hb with hb; have e : b = D := Option.some.inj e; have hb : W.heap.size = b := hb; omega)
    · have hn : n ≠ 0 := by
        rw [← hlen, hou, (show tailG l = grpL l from if_neg h0)]
        unfold grpL
        split <;> simp
      have hdn : ((n : Int) == 0) = false := by simpa using hn
      have hg : grpL l = out := by rw [hou, (show tailG l = grpL l from if_neg h0)]
      replace hg := Lib.hid hg
      clear hou hn h0 hL hR hO3 hX hY hIV hrV
      go_wp2
      have hWs := hB.size
      have k1 := (KeepsOthers.setCell W ⟨w.heap.size + 1, 0, none⟩ (.slice A n d)).same D _ hWD rfl
      have c1 := (hO.set (.slice A n d)).cell
      have c2 := cell_kept c1 (grownBy_putObj' _ D (.deferred none)) (fun r e => by cases e; exact ⟨_, k1, rfl⟩)
      refine ⟨by simp, .inl ⟨_, _, rfl, run_takeDeferred k1, ?_⟩⟩
      refine ⟨.slice A n d, ?_, _, _, _, rfl, ?_, (hB.setCell (p := ⟨w.heap.size + 1, 0, none⟩) (by simp) _).trans (belowK_b (w := w) (Nat.le_refl _) _ D _ _ (by omega) k1 rfl rfl)⟩
      · simp [results, Tryd.f50, go_sem, c2]
      · have ho := Ov.grown hOb (grownBy_setCell' W (w.heap.size + 1) (.slice A n d)) (fun b hb e => by have := (hOb.ab b hb).1; have e : b = w.heap.size + 1 := Option.some.inj e; omega)
        rw [hg.out]
        refine Ov.ge (Ov.grown ho (grownBy_putObj' _ D (.deferred none)) (fun b hb e => ?_)) (show w.heap.size ≤ V.heap.size by omega)
        have e : b = D := Option.some.inj e
        subst e
        cases Ov.isCells ho b _ hb k1
  case rbody =>
    intro m pre x W hI hlt
    simp only [List.setIfInBounds_toArray, List.set_cons_zero, List.set_cons_succ, Option.map_some, Addr.add_lit, Nat.zero_add]
    obtain ⟨A, n, d, out, z, hz, hO, hOb, hL, hR, hB⟩ := hI
    have hpl : pre.length ≤ 40 := by rw [starts_len] at hlt; omega
    have hlen := hOb.len
    have hrW : Rd W (some ⟨w.heap.size + 1 + 1 + 1, x, none⟩) (min 8 (l.length - x)) (min 8 (l.length - x)) ((l.drop x).take 8) := by
      refine ⟨by simp, Nat.le_refl _, by unfold maxLen; omega, fun h0 => ⟨_, _, rfl, Nat.lt_of_lt_of_le (show w.heap.size + 1 + 1 + 1 < V.heap.size by omega) hR.1, fun j y hy => ?_⟩⟩
      obtain ⟨b0, o0, e0, _, hc0⟩ := hrV.2.2.2 (by omega)
      injection e0 with e0
      injection e0 with e1 e2
      subst e1 e2
      rw [hR.cell (b := w.heap.size + 1 + 1 + 1) (by omega) (by omega)]
      have h1 := hc0 (x + j) y (by
        rw [List.map_take, List.getElem?_take] at hy
        split at hy
        · rw [List.map_drop, List.getElem?_drop] at hy
          exact hy
        · cases hy)
      rw [Nat.zero_add] at h1
      exact h1
    have hgl : ((l.drop x).take 8).length = min 8 (l.length - x) := by simp
    generalize hm : min 8 (l.length - x) = q at *
    have hbl : Below W.heap.size W (W.alloc (.cells #[.int .u8 0, .int .u8 0, .int .u8 0, .int .u8 0, .int .u8 0, .int .u8 0, .int .u8 0, .int .u8 0, .int .u8 0] 115)) := (Below.refl _ W).alloc (Nat.le_refl _) _
    obtain ⟨W2, hcopy, hW2, hg2⟩ := copy_to (P := Tryd.prog) (W.alloc (.cells #[.int .u8 0, .int .u8 0, .int .u8 0, .int .u8 0, .int .u8 0, .int .u8 0, .int .u8 0, .int .u8 0, .int .u8 0] 115)) 52 52 3 5 Tryd.underlying52 (by kernel_rfl) W.heap.size 9 9 (some ⟨w.heap.size + 1 + 1 + 1, x, none⟩) q q (List.replicate 9 0) 115 _ (World.alloc_heap_new W _) (by omega) (by simp) (hrW.below hbl)
    have hO0 := hO.alloc (.cells #[.int .u8 0, .int .u8 0, .int .u8 0, .int .u8 0, .int .u8 0, .int .u8 0, .int .u8 0, .int .u8 0, .int .u8 0] 115)
    have hL0 := hL.alloc (.cells #[.int .u8 0, .int .u8 0, .int .u8 0, .int .u8 0, .int .u8 0, .int .u8 0, .int .u8 0, .int .u8 0, .int .u8 0] 115)
    have hlw := hL.lt
    have hO2 := hO0.kept hg2 (by simp; omega)
    have hL2 := hL0.kept hg2 (by simp; omega)
    have hOb2 := (hOb.below hbl).grown hg2 (fun b hb e => by have h2 := (hOb.ab b hb).2; have e : b = W.heap.size := Option.some.inj e; omega)
    have hcl2 := hL2.cell
    have hfl2 := hL2.frozen
    have hA3 : Arr (W2.setCell ⟨w.heap.size + 1 + 1, 0, none⟩ (.int .i64 (z - (q : Int)))) W.heap.size 115 _ := Arr.kept (row := some (w.heap.size + 1 + 1)) hW2 (grownBy_setCell' W2 _ _) (by simp; omega)
    have hL3 := (hL2.set (.int .i64 (z - (q : Int)))).cell
    have hcl8 : 8 < (List.take 8 (List.drop x l) ++ List.drop q (List.replicate 9 0)).length := by simp; omega
    have hc8 := hA3.cell hcl8
    have hf8 := hA3.frozen 8
    have hO3 := (box_other hO2 (show w.heap.size + 1 ≠ w.heap.size + 1 + 1 by omega) : Boxed (W2.setCell ⟨w.heap.size + 1 + 1, 0, none⟩ (.int .i64 (z - (q : Int)))) _ _ _)
    have hLb3 := hL2.set (.int .i64 (z - (q : Int)))
    have hOb3 := Ov.grown hOb2 (grownBy_setCell' W2 (w.heap.size + 1 + 1) (.int .i64 (z - (q : Int)))) (fun b hb e => by have := (hOb2.ab b hb).1; injection e with e; omega)
    have hKo3 : KeepsOthers W (W2.setCell ⟨w.heap.size + 1 + 1, 0, none⟩ (.int .i64 (z - (q : Int)))) := ((KeepsOthers.alloc W _).trans (KeepsOthers.of_grownBy hg2 (fun j o e ho => by injection e with e; subst e; rw [World.alloc_heap_new] at ho; injection ho with ho; subst ho; rfl))).trans (KeepsOthers.setCell _ _ _)
    have hRg3 : Rng (w.heap.size + 3) V.heap.size W (W2.setCell ⟨w.heap.size + 1 + 1, 0, none⟩ (.int .i64 (z - (q : Int)))) := ((Rng.of_below (hbl.mono hR.1)).trans (Rng.grown hg2 (by simp; have := hR.1; omega) (fun r e => by injection e with e; have := hR.1; omega))).trans (Rng.setCell _ _ _ _ (by omega))
    have hBb3 : Below w.heap.size w (W2.setCell ⟨w.heap.size + 1 + 1, 0, none⟩ (.int .i64 (z - (q : Int)))) := (((hB.trans (hbl.mono hB.size)).grown hg2 (by simp; omega) (fun k e => by injection e with e; omega))).setCell (p := ⟨w.heap.size + 1 + 1, 0, none⟩) (by simp; omega) _
    have hWV := hR.1
    have hq8 : q ≤ 8 := by omega
    clear hL2 hO2 hOb2 hO0 hL0 hrW
    by_cases hq : (q : Int) < z
    · have hdq : decide ((q : Int) < z) = true := by simpa using hq
      gi_wp2_with fail
      clear hcopy hg2 hW2 hcl2 hfl2
      generalize (W2.setCell ⟨w.heap.size + 1 + 1, 0, none⟩ (.int .i64 (z - (q : Int)))) = W3 at *
      have hO5 : Boxed ((W3.setCell ⟨W.heap.size, 8, none⟩ (.int .u8 (q : Int))).setCell ⟨W.heap.size, 8, none⟩ (.int .u8 9)) (w.heap.size + 1) 52 (.slice A n d) := (hO3.kept (grownBy_setCell_at W3 ⟨W.heap.size, 8, none⟩ _) (by simp; omega)).kept (grownBy_setCell_at _ ⟨W.heap.size, 8, none⟩ _) (by simp; omega)
      have hL5 : Boxed ((W3.setCell ⟨W.heap.size, 8, none⟩ (.int .u8 (q : Int))).setCell ⟨W.heap.size, 8, none⟩ (.int .u8 9)) (w.heap.size + 1 + 1) 3 (.int .i64 (z - (q : Int))) := (hLb3.kept (grownBy_setCell_at W3 ⟨W.heap.size, 8, none⟩ _) (by simp; omega)).kept (grownBy_setCell_at _ ⟨W.heap.size, 8, none⟩ _) (by simp; omega)
      have hOb5 := Ov.grown (Ov.grown hOb3 (grownBy_setCell_at W3 ⟨W.heap.size, 8, none⟩ (.int .u8 (q : Int))) (fun b hb e => by have h2 := (hOb.ab b hb).2; have e : b = W.heap.size := Option.some.inj e; omega)) (grownBy_setCell_at _ ⟨W.heap.size, 8, none⟩ (.int .u8 9)) (fun b hb e => by have h2 := (hOb.ab b hb).2; have e : b = W.heap.size := Option.some.inj e; omega)
      have hA5 := (hA3.set 8 (v := .int .u8 (q : Int)) (b := UInt8.ofNat q) (by unfold cb; simp; omega)).set 8 (v := .int .u8 9) (b := 9) rfl
      have hKo5 := (hKo3.trans (KeepsOthers.setCell W3 ⟨W.heap.size, 8, none⟩ (.int .u8 (q : Int)))).trans (KeepsOthers.setCell _ ⟨W.heap.size, 8, none⟩ (.int .u8 9))
      have hRg5 := (hRg3.trans (Rng.setCell W3 W.heap.size 8 (.int .u8 (q : Int)) (.inr hWV))).trans (Rng.setCell _ W.heap.size 8 (.int .u8 9) (.inr hWV))
      have hBb5 := (hBb3.setCell (p := ⟨W.heap.size, 8, none⟩) (by simp; omega) (.int .u8 (q : Int))).setCell (p := ⟨W.heap.size, 8, none⟩) (by simp; omega) (.int .u8 9)
      generalize ((W3.setCell ⟨W.heap.size, 8, none⟩ (.int .u8 (q : Int))).setCell ⟨W.heap.size, 8, none⟩ (.int .u8 9)) = W5 at *
      clear hO3 hLb3 hOb3 hA3 hL3 hc8 hf8 hKo3 hRg3 hBb3
      have hlA := (hA5.rd' 9 9 (by simp; omega) (Nat.le_refl _) (by decide)).below (Below.refl _ W5).drew
      obtain ⟨A', c', w6, happ, hOb6, hg6, hab6⟩ := run_append_bs (P := Tryd.prog) W5.drew 52 52 5 Tryd.underlying52 info_u8 V.heap.size A n d out (hOb5.below (Below.refl _ W5).drew) (some ⟨W.heap.size, 0, none⟩) 9 9 _ hlA (by omega) (by have := hRg5.1; simp; omega)
      have hO6 := (box_drew hO5).kept hg6 (fun e => by have := (hOb.ab _ e.symm).1; omega)
      have hL6 := (box_drew hL5).kept hg6 (fun e => by have := (hOb.ab _ e.symm).1; omega)
      have hcO5 := hO5.cell
      have hcO5d : W5.drew.cell? ⟨w.heap.size + 1, 0, none⟩ = some (.slice A n d) := hcO5
      have hcO6 := hO6.cell
      have hfO6 := hO6.frozen
      
      refine wpIn_region_any (by kernel_rfl) ?_
      change wpAnyIn _ _ _ _ _ _ _ _ _ (World.drew _)
      refine wpAnyIn_ready (rs := [0, 1]) (by kernel_rfl) (by simp) ?_
      refine AllReadyIn.consL rfl (fun K hK => ?_) (AllReadyIn.consL rfl (fun K hK => ?_) AllReadyIn.nil)
      · skip
        refine stepI (fun _ => trivial) rfl (v := .slice A n d) (w' := W5.drew) (by simp [go_sem, hcO5d]) ?_
        refine hK _ _ ?_
        clear hK
        try simp only [Act.put, List.setIfInBounds_toArray, List.set_cons_zero, List.set_cons_succ]
        refine wpAnyIn_ready (rs := [1]) (by kernel_rfl) (by simp) ?_
        refine AllReadyIn.consL rfl (fun K hK => ?_) AllReadyIn.nil
        refine stepI (fun _ => trivial) rfl (v := .slice (some ⟨W.heap.size, 0, none⟩) 9 9) (w' := W5.drew) (by simp [go_sem]) ?_
        refine hK _ _ ?_
        clear hK
        try simp only [Act.put, List.setIfInBounds_toArray, List.set_cons_zero, List.set_cons_succ]
        refine wpAnyIn_ready (rs := [2]) (by kernel_rfl) (by simp) ?_
        refine AllReadyIn.consL rfl (fun K hK => ?_) AllReadyIn.nil
        refine stepI (fun _ => trivial) rfl (v := .slice A' (n + 9) c') (w' := w6) (by
          change Sem.run _ (Oper.semAt (some _) _ _) _ = _
          rw [Oper.semAt_some _ _ _ (fun c h => by cases h)]
          simp only [execOp, resolve, invoke, builtin, Sem.run_bind, Sem.run_pure, Result.andThen_ok, List.map_toArray, List.map_cons, List.map_nil]
          change (Sem.run _ (Builtin.append_ _ _ #[.slice A n d, .slice (some ⟨W.heap.size, 0, none⟩) 9 9]) _).andThen _ = _
          rw [happ]
          rfl) ?_
        refine hK _ _ ?_
        clear hK
        try simp only [Act.put, List.setIfInBounds_toArray, List.set_cons_zero, List.set_cons_succ]
        refine wpAnyIn_ready (rs := [3]) (by kernel_rfl) (by simp) ?_
        refine AllReadyIn.consL rfl (fun K hK => ?_) AllReadyIn.nil
        refine stepI_skip (fun _ => trivial) rfl (w' := w6.setCell ⟨w.heap.size + 1, 0, none⟩ (.slice A' (n + 9) c')) (by simp [go_sem, hcO6, hfO6]) ?_
        refine hK _ _ ?_
        clear hK
        refine wpAnyIn_done (by kernel_rfl) ?_ _
        have hgc := grownBy_setCell' w6 (w.heap.size + 1) (.slice A' (n + 9) c')
        have hA' : ∀ b, ab A' = some b → V.heap.size ≤ b := fun b hb => (hOb6.ab b hb).1
        have hAb : ∀ b, ab A = some b → V.heap.size ≤ b := fun b hb => (hOb.ab b hb).1
        have hsz5 := hRg5.1
        have hRW : Rng (w.heap.size + 3) V.heap.size W (w6.setCell ⟨w.heap.size + 1, 0, none⟩ (.slice A' (n + 9) c')) :=
          ((hRg5.trans (Rng.of_below ((Below.refl _ W5).drew.mono (by omega)))).trans (Rng.grown hg6 (by show V.heap.size ≤ W5.heap.size; omega) (fun r e => .inr (hAb r e)))).trans (Rng.setCell _ _ _ _ (.inl (by omega)))
        gi_wp2
        refine ⟨((hKo5.trans (KeepsOthers.drew W5)).trans (KeepsOthers.of_grownBy hg6 (Ov.isCells (hOb5.below (Below.refl _ W5).drew)))).trans (KeepsOthers.setCell _ _ _), hRW,
          A', n + 9, c', _, z - (q : Int), ⟨by simp; omega, by omega, by simp; omega, fun hp => ?_⟩, hO6.set _, Ov.grown hOb6 hgc (fun b hb e => by have h1 := hA' b hb; have e : b = w.heap.size + 1 := Option.some.inj e; omega), box_other hL6 (by omega), hR.trans hRW,
          ((hBb5.drew.grown hg6 (by show w.heap.size ≤ W5.heap.size; omega) (fun b hb => by have := hAb b hb; omega))).setCell (p := ⟨w.heap.size + 1, 0, none⟩) (by simp) _⟩
        have hx := starts_next hp
        obtain ⟨hz1, hz2⟩ := hz.2.2.2 (List.IsPrefix.trans (List.prefix_append _ _) hp)
        exact round_more hx (by rw [starts_len] at hlt; exact hlt) hm hq hz1 hz2
      · skip
        refine stepI (fun _ => trivial) rfl (v := .slice (some ⟨W.heap.size, 0, none⟩) 9 9) (w' := W5.drew) (by simp [go_sem]) ?_
        refine hK _ _ ?_
        clear hK
        try simp only [Act.put, List.setIfInBounds_toArray, List.set_cons_zero, List.set_cons_succ]
        refine wpAnyIn_ready (rs := [0]) (by kernel_rfl) (by simp) ?_
        refine AllReadyIn.consL rfl (fun K hK => ?_) AllReadyIn.nil
        refine stepI (fun _ => trivial) rfl (v := .slice A n d) (w' := W5.drew) (by simp [go_sem, hcO5d]) ?_
        refine hK _ _ ?_
        clear hK
        try simp only [Act.put, List.setIfInBounds_toArray, List.set_cons_zero, List.set_cons_succ]
        refine wpAnyIn_ready (rs := [2]) (by kernel_rfl) (by simp) ?_
        refine AllReadyIn.consL rfl (fun K hK => ?_) AllReadyIn.nil
        refine stepI (fun _ => trivial) rfl (v := .slice A' (n + 9) c') (w' := w6) (by
          change Sem.run _ (Oper.semAt (some _) _ _) _ = _
          rw [Oper.semAt_some _ _ _ (fun c h => by cases h)]
          simp only [execOp, resolve, invoke, builtin, Sem.run_bind, Sem.run_pure, Result.andThen_ok, List.map_toArray, List.map_cons, List.map_nil]
          change (Sem.run _ (Builtin.append_ _ _ #[.slice A n d, .slice (some ⟨W.heap.size, 0, none⟩) 9 9]) _).andThen _ = _
          rw [happ]
          rfl) ?_
        refine hK _ _ ?_
        clear hK
        try simp only [Act.put, List.setIfInBounds_toArray, List.set_cons_zero, List.set_cons_succ]
        refine wpAnyIn_ready (rs := [3]) (by kernel_rfl) (by simp) ?_
        refine AllReadyIn.consL rfl (fun K hK => ?_) AllReadyIn.nil
        refine stepI_skip (fun _ => trivial) rfl (w' := w6.setCell ⟨w.heap.size + 1, 0, none⟩ (.slice A' (n + 9) c')) (by simp [go_sem, hcO6, hfO6]) ?_
        refine hK _ _ ?_
        clear hK
        refine wpAnyIn_done (by kernel_rfl) ?_ _
        have hgc := grownBy_setCell' w6 (w.heap.size + 1) (.slice A' (n + 9) c')
        have hA' : ∀ b, ab A' = some b → V.heap.size ≤ b := fun b hb => (hOb6.ab b hb).1
        have hAb : ∀ b, ab A = some b → V.heap.size ≤ b := fun b hb => (hOb.ab b hb).1
        have hsz5 := hRg5.1
        have hRW : Rng (w.heap.size + 3) V.heap.size W (w6.setCell ⟨w.heap.size + 1, 0, none⟩ (.slice A' (n + 9) c')) :=
          ((hRg5.trans (Rng.of_below ((Below.refl _ W5).drew.mono (by omega)))).trans (Rng.grown hg6 (by show V.heap.size ≤ W5.heap.size; omega) (fun r e => .inr (hAb r e)))).trans (Rng.setCell _ _ _ _ (.inl (by omega)))
        gi_wp2
        refine ⟨((hKo5.trans (KeepsOthers.drew W5)).trans (KeepsOthers.of_grownBy hg6 (Ov.isCells (hOb5.below (Below.refl _ W5).drew)))).trans (KeepsOthers.setCell _ _ _), hRW,
          A', n + 9, c', _, z - (q : Int), ⟨by simp; omega, by omega, by simp; omega, fun hp => ?_⟩, hO6.set _, Ov.grown hOb6 hgc (fun b hb e => by have h1 := hA' b hb; have e : b = w.heap.size + 1 := Option.some.inj e; omega), box_other hL6 (by omega), hR.trans hRW,
          ((hBb5.drew.grown hg6 (by show w.heap.size ≤ W5.heap.size; omega) (fun b hb => by have := hAb b hb; omega))).setCell (p := ⟨w.heap.size + 1, 0, none⟩) (by simp) _⟩
        have hx := starts_next hp
        obtain ⟨hz1, hz2⟩ := hz.2.2.2 (List.IsPrefix.trans (List.prefix_append _ _) hp)
        exact round_more hx (by rw [starts_len] at hlt; exact hlt) hm hq hz1 hz2
    · have hdq : decide ((q : Int) < z) = false := by simpa using hq
      gi_wp2_with fail
      clear hcopy hg2 hW2 hcl2 hfl2
      generalize (W2.setCell ⟨w.heap.size + 1 + 1, 0, none⟩ (.int .i64 (z - (q : Int)))) = W3 at *
      have hO5 : Boxed ((W3.setCell ⟨W.heap.size, 8, none⟩ (.int .u8 (q : Int)))) (w.heap.size + 1) 52 (.slice A n d) := (hO3.kept (grownBy_setCell_at W3 ⟨W.heap.size, 8, none⟩ _) (by simp; omega))
      have hL5 : Boxed ((W3.setCell ⟨W.heap.size, 8, none⟩ (.int .u8 (q : Int)))) (w.heap.size + 1 + 1) 3 (.int .i64 (z - (q : Int))) := (hLb3.kept (grownBy_setCell_at W3 ⟨W.heap.size, 8, none⟩ _) (by simp; omega))
      have hOb5 := (Ov.grown hOb3 (grownBy_setCell_at W3 ⟨W.heap.size, 8, none⟩ (.int .u8 (q : Int))) (fun b hb e => by have h2 := (hOb.ab b hb).2; have e : b = W.heap.size := Option.some.inj e; omega))
      have hA5 := (hA3.set 8 (v := .int .u8 (q : Int)) (b := UInt8.ofNat q) (by unfold cb; simp; omega))
      have hKo5 := (hKo3.trans (KeepsOthers.setCell W3 ⟨W.heap.size, 8, none⟩ (.int .u8 (q : Int))))
      have hRg5 := (hRg3.trans (Rng.setCell W3 W.heap.size 8 (.int .u8 (q : Int)) (.inr hWV)))
      have hBb5 := (hBb3.setCell (p := ⟨W.heap.size, 8, none⟩) (by simp; omega) (.int .u8 (q : Int)))
      generalize ((W3.setCell ⟨W.heap.size, 8, none⟩ (.int .u8 (q : Int)))) = W5 at *
      clear hO3 hLb3 hOb3 hA3 hL3 hc8 hf8 hKo3 hRg3 hBb3
      have hlA := (hA5.rd' 9 9 (by simp; omega) (Nat.le_refl _) (by decide)).below (Below.refl _ W5).drew
      obtain ⟨A', c', w6, happ, hOb6, hg6, hab6⟩ := run_append_bs (P := Tryd.prog) W5.drew 52 52 5 Tryd.underlying52 info_u8 V.heap.size A n d out (hOb5.below (Below.refl _ W5).drew) (some ⟨W.heap.size, 0, none⟩) 9 9 _ hlA (by omega) (by have := hRg5.1; simp; omega)
      have hO6 := (box_drew hO5).kept hg6 (fun e => by have := (hOb.ab _ e.symm).1; omega)
      have hL6 := (box_drew hL5).kept hg6 (fun e => by have := (hOb.ab _ e.symm).1; omega)
      have hcO5 := hO5.cell
      have hcO5d : W5.drew.cell? ⟨w.heap.size + 1, 0, none⟩ = some (.slice A n d) := hcO5
      have hcO6 := hO6.cell
      have hfO6 := hO6.frozen
      
      refine wpIn_region_any (by kernel_rfl) ?_
      change wpAnyIn _ _ _ _ _ _ _ _ _ (World.drew _)
      refine wpAnyIn_ready (rs := [0, 1]) (by kernel_rfl) (by simp) ?_
      refine AllReadyIn.consL rfl (fun K hK => ?_) (AllReadyIn.consL rfl (fun K hK => ?_) AllReadyIn.nil)
      · skip
        refine stepI (fun _ => trivial) rfl (v := .slice A n d) (w' := W5.drew) (by simp [go_sem, hcO5d]) ?_
        refine hK _ _ ?_
        clear hK
        try simp only [Act.put, List.setIfInBounds_toArray, List.set_cons_zero, List.set_cons_succ]
        refine wpAnyIn_ready (rs := [1]) (by kernel_rfl) (by simp) ?_
        refine AllReadyIn.consL rfl (fun K hK => ?_) AllReadyIn.nil
        refine stepI (fun _ => trivial) rfl (v := .slice (some ⟨W.heap.size, 0, none⟩) 9 9) (w' := W5.drew) (by simp [go_sem]) ?_
        refine hK _ _ ?_
        clear hK
        try simp only [Act.put, List.setIfInBounds_toArray, List.set_cons_zero, List.set_cons_succ]
        refine wpAnyIn_ready (rs := [2]) (by kernel_rfl) (by simp) ?_
        refine AllReadyIn.consL rfl (fun K hK => ?_) AllReadyIn.nil
        refine stepI (fun _ => trivial) rfl (v := .slice A' (n + 9) c') (w' := w6) (by
          change Sem.run _ (Oper.semAt (some _) _ _) _ = _
          rw [Oper.semAt_some _ _ _ (fun c h => by cases h)]
          simp only [execOp, resolve, invoke, builtin, Sem.run_bind, Sem.run_pure, Result.andThen_ok, List.map_toArray, List.map_cons, List.map_nil]
          change (Sem.run _ (Builtin.append_ _ _ #[.slice A n d, .slice (some ⟨W.heap.size, 0, none⟩) 9 9]) _).andThen _ = _
          rw [happ]
          rfl) ?_
        refine hK _ _ ?_
        clear hK
        try simp only [Act.put, List.setIfInBounds_toArray, List.set_cons_zero, List.set_cons_succ]
        refine wpAnyIn_ready (rs := [3]) (by kernel_rfl) (by simp) ?_
        refine AllReadyIn.consL rfl (fun K hK => ?_) AllReadyIn.nil
        refine stepI_skip (fun _ => trivial) rfl (w' := w6.setCell ⟨w.heap.size + 1, 0, none⟩ (.slice A' (n + 9) c')) (by simp [go_sem, hcO6, hfO6]) ?_
        refine hK _ _ ?_
        clear hK
        refine wpAnyIn_done (by kernel_rfl) ?_ _
        have hgc := grownBy_setCell' w6 (w.heap.size + 1) (.slice A' (n + 9) c')
        have hA' : ∀ b, ab A' = some b → V.heap.size ≤ b := fun b hb => (hOb6.ab b hb).1
        have hAb : ∀ b, ab A = some b → V.heap.size ≤ b := fun b hb => (hOb.ab b hb).1
        have hsz5 := hRg5.1
        have hRW : Rng (w.heap.size + 3) V.heap.size W (w6.setCell ⟨w.heap.size + 1, 0, none⟩ (.slice A' (n + 9) c')) :=
          ((hRg5.trans (Rng.of_below ((Below.refl _ W5).drew.mono (by omega)))).trans (Rng.grown hg6 (by show V.heap.size ≤ W5.heap.size; omega) (fun r e => .inr (hAb r e)))).trans (Rng.setCell _ _ _ _ (.inl (by omega)))
        gi_wp2
        refine ⟨((hKo5.trans (KeepsOthers.drew W5)).trans (KeepsOthers.of_grownBy hg6 (Ov.isCells (hOb5.below (Below.refl _ W5).drew)))).trans (KeepsOthers.setCell _ _ _), hRW,
          A', n + 9, c', _, z - (q : Int), ⟨by simp; omega, by omega, by simp; omega, fun hp => ?_⟩, hO6.set _, Ov.grown hOb6 hgc (fun b hb e => by have h1 := hA' b hb; have e : b = w.heap.size + 1 := Option.some.inj e; omega), box_other hL6 (by omega), hR.trans hRW,
          ((hBb5.drew.grown hg6 (by show w.heap.size ≤ W5.heap.size; omega) (fun b hb => by have := hAb b hb; omega))).setCell (p := ⟨w.heap.size + 1, 0, none⟩) (by simp) _⟩
        have hx := starts_next hp
        obtain ⟨hz1, hz2⟩ := hz.2.2.2 (List.IsPrefix.trans (List.prefix_append _ _) hp)
        exact round_last hx (by rw [starts_len] at hlt; exact hlt) hm hq hz1 hz2
      · skip
        refine stepI (fun _ => trivial) rfl (v := .slice (some ⟨W.heap.size, 0, none⟩) 9 9) (w' := W5.drew) (by simp [go_sem]) ?_
        refine hK _ _ ?_
        clear hK
        try simp only [Act.put, List.setIfInBounds_toArray, List.set_cons_zero, List.set_cons_succ]
        refine wpAnyIn_ready (rs := [0]) (by kernel_rfl) (by simp) ?_
        refine AllReadyIn.consL rfl (fun K hK => ?_) AllReadyIn.nil
        refine stepI (fun _ => trivial) rfl (v := .slice A n d) (w' := W5.drew) (by simp [go_sem, hcO5d]) ?_
        refine hK _ _ ?_
        clear hK
        try simp only [Act.put, List.setIfInBounds_toArray, List.set_cons_zero, List.set_cons_succ]
        refine wpAnyIn_ready (rs := [2]) (by kernel_rfl) (by simp) ?_
        refine AllReadyIn.consL rfl (fun K hK => ?_) AllReadyIn.nil
        refine stepI (fun _ => trivial) rfl (v := .slice A' (n + 9) c') (w' := w6) (by
          change Sem.run _ (Oper.semAt (some _) _ _) _ = _
          rw [Oper.semAt_some _ _ _ (fun c h => by cases h)]
          simp only [execOp, resolve, invoke, builtin, Sem.run_bind, Sem.run_pure, Result.andThen_ok, List.map_toArray, List.map_cons, List.map_nil]
          change (Sem.run _ (Builtin.append_ _ _ #[.slice A n d, .slice (some ⟨W.heap.size, 0, none⟩) 9 9]) _).andThen _ = _
          rw [happ]
          rfl) ?_
        refine hK _ _ ?_
        clear hK
        try simp only [Act.put, List.setIfInBounds_toArray, List.set_cons_zero, List.set_cons_succ]
        refine wpAnyIn_ready (rs := [3]) (by kernel_rfl) (by simp) ?_
        refine AllReadyIn.consL rfl (fun K hK => ?_) AllReadyIn.nil
        refine stepI_skip (fun _ => trivial) rfl (w' := w6.setCell ⟨w.heap.size + 1, 0, none⟩ (.slice A' (n + 9) c')) (by simp [go_sem, hcO6, hfO6]) ?_
        refine hK _ _ ?_
        clear hK
        refine wpAnyIn_done (by kernel_rfl) ?_ _
        have hgc := grownBy_setCell' w6 (w.heap.size + 1) (.slice A' (n + 9) c')
        have hA' : ∀ b, ab A' = some b → V.heap.size ≤ b := fun b hb => (hOb6.ab b hb).1
        have hAb : ∀ b, ab A = some b → V.heap.size ≤ b := fun b hb => (hOb.ab b hb).1
        have hsz5 := hRg5.1
        have hRW : Rng (w.heap.size + 3) V.heap.size W (w6.setCell ⟨w.heap.size + 1, 0, none⟩ (.slice A' (n + 9) c')) :=
          ((hRg5.trans (Rng.of_below ((Below.refl _ W5).drew.mono (by omega)))).trans (Rng.grown hg6 (by show V.heap.size ≤ W5.heap.size; omega) (fun r e => .inr (hAb r e)))).trans (Rng.setCell _ _ _ _ (.inl (by omega)))
        gi_wp2
        refine ⟨((hKo5.trans (KeepsOthers.drew W5)).trans (KeepsOthers.of_grownBy hg6 (Ov.isCells (hOb5.below (Below.refl _ W5).drew)))).trans (KeepsOthers.setCell _ _ _), hRW,
          A', n + 9, c', _, z - (q : Int), ⟨by simp; omega, by omega, by simp; omega, fun hp => ?_⟩, hO6.set _, Ov.grown hOb6 hgc (fun b hb e => by have h1 := hA' b hb; have e : b = w.heap.size + 1 := Option.some.inj e; omega), box_other hL6 (by omega), hR.trans hRW,
          ((hBb5.drew.grown hg6 (by show w.heap.size ≤ W5.heap.size; omega) (fun b hb => by have := hAb b hb; omega))).setCell (p := ⟨w.heap.size + 1, 0, none⟩) (by simp) _⟩
        have hx := starts_next hp
        obtain ⟨hz1, hz2⟩ := hz.2.2.2 (List.IsPrefix.trans (List.prefix_append _ _) hp)
        exact round_last hx (by rw [starts_len] at hlt; exact hlt) hm hq hz1 hz2
end Go.Proofs.YtdgmhegcoogokaaDoor
