/- The reference's Of. -/
import Derived.Test.YtnjhhibjcfjhnaaDoorRkF
import Derived.Test.YtnjhhibjcfjhnaaDoorLkO
namespace Go.Proofs.YtnjhhibjcfjhnaaDoor
open Go.RowKit
set_option linter.unusedVariables false

theorem ofK_snoc (t : List UInt8) (x : Ak) : ∀ l : List Ak, ofK t (l ++ [x]) = ofK t l ++ ofW t x.s x.W
  | [] => by simp [ofK]
  | a :: r => by rw [List.cons_append, ofK, ofK_snoc t x r, ofK, List.append_assoc]
theorem ofW_snoc (t : List UInt8) (s : Int) (l : List Wt) (y : Wt) : ofW t s (l ++ [y]) = if y.t = t then ofW t s l ++ [(s, y)] else ofW t s l := by
  unfold ofW
  by_cases h : y.t = t <;> simp [h]
def ozL (zs : List Ak) (l : List (Int × Wt)) : Prop := zs.map (fun z => (z.s, z.W)) = l.map fun p => (p.1, [p.2])
theorem ozL.snoc {zs : List Ak} {l : List (Int × Wt)} (h : ozL zs l) {z : Ak} {p : Int × Wt} (h1 : z.s = p.1) (h2 : z.W = [p.2]) : ozL (zs ++ [z]) (l ++ [p]) := by
  unfold ozL at *
  rw [List.map_append, List.map_append, h]
  simp [h1, h2]
structure OS (w wr : World) (now : Int) (A : Option Addr) (n c : Nat) (zs : List Ak) (A' : Option Addr) (c' : Nat) : Prop where
  bel : Below w.heap.size w wr
  kx : wr.heap[w.heap.size]? = some (.cells #[.int .i64 now, .slice A n c] 45 (0, 0))
  row : Ov wr (w.heap.size + 1) 96 6 A' zs.length c' (rcells zs)
  tabs : ∀ z ∈ zs, Ov wr (w.heap.size + 1) 64 2 z.A z.n z.c (wcells z.W)
  size : w.heap.size + 1 ≤ wr.heap.size
theorem OS.more {w wr w2 : World} {now : Int} {A : Option Addr} {n c : Nat} {zs : List Ak} {A' : Option Addr} {c' : Nat} (h : OS w wr now A n c zs A' c') (hb : Below wr.heap.size wr w2) : OS w w2 now A n c zs A' c' :=
  ⟨gr h.bel hb, (hb.block _ (by have := h.size; omega)).trans h.kx, h.row.below hb, fun z hz => (h.tabs z hz).below hb, Nat.le_trans h.size hb.size⟩
theorem OS.add {w wr w2 : World} {now : Int} {A : Option Addr} {n c : Nat} {zs : List Ak} {z : Ak} {A' A'' : Option Addr} {c' c'' : Nat} (h : OS w wr now A n c zs A' c') (hz : Ov wr (w.heap.size + 1) 64 2 z.A z.n z.c (wcells z.W)) (hg : wr.grownBy w2 (ab A')) (ho : Ov w2 (w.heap.size + 1) 96 6 A'' (zs ++ [z]).length c'' (rcells (zs ++ [z]))) : OS w w2 now A n c (zs ++ [z]) A'' c'' :=
  ⟨h.bel.grown hg (by have := h.size; omega) (fun k e => by have := (h.row.ab k e).1; omega), (hg.block _ (by have := h.size; omega) (fun e => by have := (h.row.ab _ e.symm).1; omega)).trans h.kx,
    ho, fun x hx => by
      rcases List.mem_append.1 hx with hx | hx
      · exact (h.tabs x hx).grown hg ((h.tabs x hx).neOv h.row (by decide))
      · rw [List.mem_singleton.1 hx]
        exact hz.grown hg (hz.neOv h.row (by decide)), Nat.le_trans h.size hg.size⟩

theorem heap_set5 {w : World} {B : Nat} {u0 u1 u2 u3 u4 u5 v' : Value} {t : TypeId} (h : w.heap[B]? = some (.cells #[u0, u1, u2, u3, u4, u5] t (0, 0))) : (w.setCell ⟨B, 5, none⟩ v').heap[B]? = some (.cells #[u0, u1, u2, u3, u4, v'] t (0, 0)) := by
  obtain ⟨hlt, hk⟩ := Array.getElem?_eq_some_iff.1 h
  show (w.heap.modify B _)[B]? = _
  rw [Array.getElem?_eq_getElem (by rw [Array.size_modify]; exact hlt), Array.getElem_modify_self, hk]
  rfl
theorem box6 {w : World} {B : Nat} {u0 u1 u2 u3 u4 u5 : Value} {t : TypeId} (h : w.heap[B]? = some (.cells #[u0, u1, u2, u3, u4, u5] t (0, 0))) : (w.cell? ⟨B, 0, none⟩ = some u0 ∧ w.cell? ⟨B, 1, none⟩ = some u1 ∧ w.cell? ⟨B, 2, none⟩ = some u2 ∧ w.cell? ⟨B, 3, none⟩ = some u3 ∧ w.cell? ⟨B, 4, none⟩ = some u4 ∧ w.cell? ⟨B, 5, none⟩ = some u5) ∧ w.frozen? ⟨B, 5, none⟩ = false := by
  simp [World.cell?, World.frozen?, h]
attribute [local go_sem] strL_toList
set_option maxRecDepth 100000 in
set_option maxHeartbeats 8000000 in
theorem ROf_any {w : World} {base : Nat} {now : Int} {A : Option Addr} {n c : Nat} {xs : List Ak} (h : RK w base A n c xs) (hbs : base ≤ w.heap.size) (hn : n < 20) (h8 : ∀ x ∈ xs, x.n ≤ 8) (t : List UInt8) :
    Calls Tryd.prog 45 #[.agg #[.int .i64 now, .slice A n c], .string (strL t)] w fun e w' => ∃ A' c' zs, e = .returned (.slice A' zs.length c') ∧
      Rv w' 6 A' zs.length c' (rcells zs) ∧ (∀ z ∈ zs, Rv w' 2 z.A z.n z.c (wcells z.W)) ∧ ozL zs (ofK t xs) ∧ Below w.heap.size w w' := by
  obtain ⟨iR, hiR, hzR, hsR, hbR⟩ := info_parts info_R
  have hb0 : Below w.heap.size w (w.alloc (.cells #[.int .i64 now, .slice A n c] 45)) := (Below.refl _ _).alloc (Nat.le_refl _) _
  have kx := World.alloc_heap_new w (.cells #[.int .i64 now, .slice A n c] 45)
  have hsz : (w.alloc (.cells #[.int .i64 now, .slice A n c] 45)).heap.size = w.heap.size + 1 := by simp
  have hln := h.len
  have hrv := h.own.rv
  have hcap : c ≤ 9223372036854775807 := hrv.2.2.1
  have hle := hrv.2.1
  have htx := Lib.hid (fun x (hx : x ∈ xs) W (hW : Below w.heap.size w W) => (h.tabs x hx).rv.below hW)
  have hS0 : OS w (w.alloc (.cells #[.int .i64 now, .slice A n c] 45)) now A n c [] none 0 := ⟨hb0, kx, Ov.nil _ _ _ _, fun z hz => by simp at hz, by omega⟩
  clear hb0 kx h
  go_enter Tryd.func45, Tryd.ntmps45
  go_upto_region 1 with fail
  generalize (w.alloc (.cells #[.int .i64 now, .slice A n c] 45)) = w1 at *
  go_wp2_with fail
  go_loopw [5, 6] (fun o p wr => ∃ (i : Nat) (A' : Option Addr) (c' : Nat) (zs : List Ak), p = .int .i64 (i : Int) ∧ i ≤ n ∧ o = .slice A' zs.length c' ∧ OS w wr now A n c zs A' c' ∧ ozL zs (ofK t (xs.take i)) ∧ zs.length ≤ i * 8)
    (fun o p wr => n - (intOf p).toNat)
  case atStart => exact ⟨0, none, 0, [], rfl, by omega, rfl, hS0, rfl, by simp⟩
  case round =>
    clear hS0
    obtain ⟨i, A', c', zs, rfl, hi, rfl, hS, hz, hzl⟩ := hrel
    have ⟨cx, fx⟩ := box_cells hS.kx
    by_cases hlt : i < n
    · have hlt2 : decide ((i : Int) < (n : Int)) = true := by simp; omega
      have hlt1 : (i : Int) < (n : Int) := by omega
      obtain ⟨b1, o1, rfl, hbq, hc1⟩ := hrv.2.2.2 (by omega)
      have E := fun (W : World) (hW : Below w.heap.size w W) => rcells_cell hc1 (fun o => hW.cell (p := ⟨b1, o, none⟩) hbq) i (by omega)
      have htk : xs.take (i + 1) = xs.take i ++ [xs[i]'(by omega)] := List.take_succ_eq_append_getElem (by omega)
      have hx8 := h8 (xs[i]'(by omega)) (List.getElem_mem _)
      have htab := fun W hW => htx.out (xs[i]'(by omega)) (List.getElem_mem _) W hW
      have hsn := ofK_snoc t (xs[i]'(by omega)) (xs.take i)
      rw [← htk] at hsn
      clear htk hc1
      generalize xs[i]'(by omega) = x at *
      obtain ⟨x0, x1, x2, x3, x4, x5, x6, x7, x8⟩ := x
      simp only at E hx8 htab hsn
      have hxl : x5.length = x7 := by have := (htab w (Below.refl _ _)).1; rw [wcells_length] at this; omega
      replace hsn := Lib.hid hsn
      replace E := Lib.hid E
      replace htab := Lib.hid htab
      obtain ⟨wo, hwo⟩ : ∃ wo, wo = wr := ⟨_, rfl⟩
      subst hwo
      go_wp2
      clear cx fx
      go_loopw [5, 7] (fun o p wr => ∃ (k : Nat) (A' : Option Addr) (c' : Nat) (zs : List Ak), p = .int .i64 (k : Int) ∧ k ≤ x7 ∧ o = .slice A' zs.length c' ∧ OS w wr now (some ⟨b1, o1, none⟩) n c zs A' c' ∧ ozL zs (ofK t (xs.take i) ++ ofW t x0 (x5.take k)) ∧ zs.length ≤ i * 8 + k)
        (fun o p wr => x7 - (intOf p).toNat)
      case atStart => exact ⟨0, A', c', zs, rfl, by omega, rfl, hS, by simpa [ofW] using hz, by omega⟩
      case round =>
        clear hS hz hzl
        obtain ⟨k, A', c', zs, rfl, hk, rfl, hS, hz, hzl⟩ := hrel
        have ⟨cx, fx⟩ := box_cells hS.kx
        have e1 := E.out wr hS.bel
        by_cases hltk : k < x7
        · have hltk2 : decide ((k : Int) < (x7 : Int)) = true := by simp; omega
          have hltk1 : (k : Int) < (x7 : Int) := by omega
          have hrw := htab.out wr hS.bel
          have hc8 : x8 ≤ 9223372036854775807 := hrw.2.2.1
          obtain ⟨b2, o2, rfl, hbw, hc2⟩ := hrw.2.2.2 (by omega)
          have e2 := wcells_cell hc2 (fun o => rfl) k (by omega)
          have htk : x5.take (k + 1) = x5.take k ++ [x5[k]'(by omega)] := List.take_succ_eq_append_getElem (by omega)
          have hws := ofW_snoc t x0 (x5.take k) (x5[k]'(by omega))
          rw [← htk] at hws
          clear htk hrw
          generalize x5[k]'(by omega) = y at *
          obtain ⟨y0, y1⟩ := y
          simp only at e2 hws
          by_cases hst : y0 = t
          · have hb : (y0 == t) = true := by simpa using hst
            rw [if_pos hst] at hws
            replace hws := Lib.hid hws
            replace hz := Lib.hid hz
            replace hst := Lib.hid hst
            have hba : Below wr.heap.size wr (wr.alloc (.cells #[.int .i64 x0, .int .i64 x1, .int .i64 x2, .bool x3, .bool x4, .slice (some ⟨b2, o2, none⟩) x7 x8] 96)) := (Below.refl _ _).alloc (Nat.le_refl _) _
            have kb := World.alloc_heap_new wr (.cells #[.int .i64 x0, .int .i64 x1, .int .i64 x2, .bool x3, .bool x4, .slice (some ⟨b2, o2, none⟩) x7 x8] 96)
            have hS1 := hS.more hba
            have e3 : (wr.alloc (.cells #[.int .i64 x0, .int .i64 x1, .int .i64 x2, .bool x3, .bool x4, .slice (some ⟨b2, o2, none⟩) x7 x8] 96)).cell? ⟨b2, o2 + k * 2, none⟩ = some (.string (strL y0)) ∧ (wr.alloc (.cells #[.int .i64 x0, .int .i64 x1, .int .i64 x2, .bool x3, .bool x4, .slice (some ⟨b2, o2, none⟩) x7 x8] 96)).cell? ⟨b2, o2 + k * 2 + 1, none⟩ = some (.bool y1) :=
              ⟨(hba.cell (p := ⟨b2, o2 + k * 2, none⟩) hbw).trans e2.1, (hba.cell (p := ⟨b2, o2 + k * 2 + 1, none⟩) hbw).trans e2.2⟩
            have hzw : (wr.alloc (.cells #[.int .i64 x0, .int .i64 x1, .int .i64 x2, .bool x3, .bool x4, .slice (some ⟨b2, o2, none⟩) x7 x8] 96)).heap.size = wr.heap.size + 1 := by simp
            have hzs := hS.size
            replace hS := Lib.hid hS
            go_upto_region 10 with fail
            clear cx fx e1 e2 hS1
            generalize (wr.alloc (.cells #[.int .i64 x0, .int .i64 x1, .int .i64 x2, .bool x3, .bool x4, .slice (some ⟨b2, o2, none⟩) x7 x8] 96)) = w2 at *
            have ⟨cb, fb⟩ := box6 kb
            have k5 := heap_set5 (v' := (.slice (some ⟨wr.heap.size + 1, 0, none⟩) 1 1)) kb
            have hz2 : (w2.setCell ⟨wr.heap.size, 5, none⟩ (.slice (some ⟨wr.heap.size + 1, 0, none⟩) 1 1)).heap.size = wr.heap.size + 1 := by simpa using hzw
            have hbA : Below wr.heap.size wr ((w2.setCell ⟨wr.heap.size, 5, none⟩ (.slice (some ⟨wr.heap.size + 1, 0, none⟩) 1 1)).alloc (.cells #[.string (strL y0), .bool y1] 64)) := (hba.setCell (p := ⟨wr.heap.size, 5, none⟩) (Nat.le_refl _) (.slice (some ⟨wr.heap.size + 1, 0, none⟩) 1 1)).alloc (by omega) _
            have hbB : Below (w2.setCell ⟨wr.heap.size, 5, none⟩ (.slice (some ⟨wr.heap.size + 1, 0, none⟩) 1 1)).heap.size (w2.setCell ⟨wr.heap.size, 5, none⟩ (.slice (some ⟨wr.heap.size + 1, 0, none⟩) 1 1)) ((w2.setCell ⟨wr.heap.size, 5, none⟩ (.slice (some ⟨wr.heap.size + 1, 0, none⟩) 1 1)).alloc (.cells #[.string (strL y0), .bool y1] 64)) := (Below.refl _ _).alloc (Nat.le_refl _) _
            have kb4 := (hbB.block wr.heap.size (by omega)).trans k5
            have hOw : Ov ((w2.setCell ⟨wr.heap.size, 5, none⟩ (.slice (some ⟨wr.heap.size + 1, 0, none⟩) 1 1)).alloc (.cells #[.string (strL y0), .bool y1] 64)) (w.heap.size + 1) 64 2 (some ⟨wr.heap.size + 1, 0, none⟩) 1 1 (wcells [⟨y0, y1⟩]) := by
              have h := World.ownsRow_lit (base := w.heap.size + 1) (e := 64) (size := 2) (w2.setCell ⟨wr.heap.size, 5, none⟩ (.slice (some ⟨wr.heap.size + 1, 0, none⟩) 1 1)) #[.string (strL y0), .bool y1] 1 (by omega) (by simp [maxLen]) (by simp)
              rw [hz2] at h
              exact h
            have hS2 := hS.out.more hbA
            have hz4 : ((w2.setCell ⟨wr.heap.size, 5, none⟩ (.slice (some ⟨wr.heap.size + 1, 0, none⟩) 1 1)).alloc (.cells #[.string (strL y0), .bool y1] 64)).heap.size = wr.heap.size + 1 + 1 := by rw [World.size_alloc, hz2]
            clear hba hbA hbB k5 hz2 hS
            replace hS2 := Lib.hid hS2
            replace hOw := Lib.hid hOw
            replace kb4 := Lib.hid kb4
            go_upto_region 11 with fail
            clear cb fb kb e3
            generalize ((w2.setCell ⟨wr.heap.size, 5, none⟩ (.slice (some ⟨wr.heap.size + 1, 0, none⟩) 1 1)).alloc (.cells #[.string (strL y0), .bool y1] 64)) = w4 at *
            clear hz4
            have ⟨cb, fb⟩ := box6 kb4.out
            have hba : Below w4.heap.size w4 (w4.alloc (.cells #[.int .i64 x0, .int .i64 x1, .int .i64 x2, .bool x3, .bool x4, .slice (some ⟨wr.heap.size + 1, 0, none⟩) 1 1] 96)) := (Below.refl _ _).alloc (Nat.le_refl _) _
            have hS5 := hS2.out.more hba
            have hw5 := hOw.out.below hba
            have hr5 := Rv.lit (w := w4) 96 6 [.int .i64 x0, .int .i64 x1, .int .i64 x2, .bool x3, .bool x4, .slice (some ⟨wr.heap.size + 1, 0, none⟩) 1 1] 1 rfl (by decide)
            have hO5 := hS5.row
            have hz5 := hS5.size
            clear hba hS2 hOw
            replace hS5 := Lib.hid hS5
            replace hw5 := Lib.hid hw5
            go_wp2_with (at_builtin; refine wpList_append_v _ rfl _ _ 43 rfl 96 iR zeroR 6 56 Tryd.underlying43 hiR hzR hsR hbR rfl (by decide) (w.heap.size + 1) A' zs.length c' (rcells zs) rfl hO5 (some ⟨w4.heap.size, 0, none⟩) 1 1 [.int .i64 x0, .int .i64 x1, .int .i64 x2, .bool x3, .bool x4, .slice (some ⟨wr.heap.size + 1, 0, none⟩) 1 1] rfl hr5 (by simp [Value.oneCell']) (by unfold maxLen; omega) (by omega) hz5 ?_; intro A6 c6 w6 hO6 hg6 hab6)
            have hS8 := hS5.out.add (z := ⟨x0, x1, x2, x3, x4, [⟨y0, y1⟩], some ⟨wr.heap.size + 1, 0, none⟩, 1, 1⟩) (A'' := A6) (c'' := c6) hw5.out hg6 (by rw [List.length_append, rcells_app]; exact hO6)
            refine ⟨⟨k + 1, A6, c6, zs ++ [⟨x0, x1, x2, x3, x4, [⟨y0, y1⟩], some ⟨wr.heap.size + 1, 0, none⟩, 1, 1⟩], by simp, by omega, by rw [List.length_append]; rfl, hS8, ?_, by rw [List.length_append]; simp; omega⟩, by simp [intOf]; omega⟩
            rw [hws.out, ← List.append_assoc]
            exact hz.out.snoc rfl rfl
          · have hb : (y0 == t) = false := by simpa using hst
            rw [if_neg hst] at hws
            rw [← hws] at hz
            replace hz := Lib.hid hz
            clear hws hst
            go_wp2
            exact ⟨⟨k + 1, A', c', zs, by simp, by omega, rfl, hS, hz.out, by omega⟩, by simp [intOf]; omega⟩
        · obtain rfl : k = x7 := by omega
          have hltk2 : decide ((k : Int) < (k : Int)) = false := by simp
          rw [show x5.take k = x5 from List.take_of_length_le (by omega), ← hsn.out] at hz
          replace hz := Lib.hid hz
          go_wp2
          exact ⟨⟨i + 1, A', c', zs, by simp, by omega, rfl, hS, hz.out, by omega⟩, by simp [intOf]; omega⟩
    · obtain rfl : i = n := by omega
      have hlt2 : decide ((i : Int) < (i : Int)) = false := by simp
      rw [List.take_of_length_le (by omega)] at hz
      replace hz := Lib.hid hz
      go_wp2
      go_ret
      exact ⟨A', c', zs, rfl, hS.row.rv, fun z hz => (hS.tabs z hz).rv, hz.out, hS.bel⟩
end Go.Proofs.YtnjhhibjcfjhnaaDoor
