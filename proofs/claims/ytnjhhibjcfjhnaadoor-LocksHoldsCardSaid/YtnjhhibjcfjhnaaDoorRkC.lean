/- The reference's locks in memory; settled. -/
import Derived.Test.YtnjhhibjcfjhnaaDoorRkB
namespace Go.Proofs.YtnjhhibjcfjhnaaDoor
open Go.RowKit
set_option linter.unusedVariables false

/-- The reference's asks in memory: a row of their own, and each ask's wants. -/
structure RK (w : World) (base : Nat) (A : Option Addr) (n c : Nat) (xs : List Ak) : Prop where
  own : Ov w base 96 6 A n c (rcells xs)
  tabs : ∀ x ∈ xs, Ov w base 64 2 x.A x.n x.c (wcells x.W)
theorem RK.len {w : World} {base : Nat} {A : Option Addr} {n c : Nat} {xs : List Ak} (h : RK w base A n c xs) : xs.length = n := by
  have := h.own.1
  rw [rcells_length] at this
  omega
theorem RK.below {w w' : World} {base : Nat} {A : Option Addr} {n c : Nat} {xs : List Ak} (h : RK w base A n c xs) (hb : Below w.heap.size w w') : RK w' base A n c xs := ⟨h.own.below hb, fun x hx => (h.tabs x hx).below hb⟩
theorem RK.nil (w : World) (base : Nat) : RK w base none 0 0 [] := ⟨Ov.nil _ _ _ _, fun x hx => by simp at hx⟩
/-- An ask whose wants lie where another one's do. -/
def sameL (x y : Ak) : Prop := x.A = y.A ∧ x.n = y.n ∧ x.c = y.c ∧ x.W = y.W
theorem goK_src (S : List Ak) : ∀ (r pre : List Ak), (∀ x ∈ pre, ∃ y ∈ S, sameL x y) → (∀ x ∈ r, ∃ y ∈ S, sameL x y) → ∀ x ∈ (goK pre r).1, ∃ y ∈ S, sameL x y
  | [], pre, h1, _ => h1
  | a :: r, pre, h1, h2 => by
    rw [goK]
    split
    · exact goK_src S r (pre ++ [a]) (fun x hx => by
        rcases List.mem_append.1 hx with hx | hx
        · exact h1 x hx
        · rw [List.mem_singleton.1 hx]; exact h2 a (by simp)) (fun x hx => h2 x (by simp [hx]))
    · exact goK_src S r (pre ++ [a.on]) (fun x hx => by
        rcases List.mem_append.1 hx with hx | hx
        · exact h1 x hx
        · rw [List.mem_singleton.1 hx]; exact h2 a (by simp)) (fun x hx => h2 x (by simp [hx]))
theorem settle_src (xs : List Ak) : ∀ x ∈ (settleK xs).1, ∃ y ∈ xs, sameL x y := fun x hx => by
  have hx := mem_ordK.1 hx
  exact goK_src xs (ordK xs) [] (by simp) (fun y hy => ⟨y, mem_ordK.1 hy, rfl, rfl, rfl, rfl⟩) x hx
theorem RK.tabsOf {w : World} {base : Nat} {A : Option Addr} {n c : Nat} {xs ys : List Ak} (h : RK w base A n c xs) (hs : ∀ x ∈ ys, ∃ y ∈ xs, sameL x y) : ∀ x ∈ ys, Ov w base 64 2 x.A x.n x.c (wcells x.W) := fun x hx => by
  obtain ⟨y, hy, e1, e2, e3, e4⟩ := hs x hx
  rw [e1, e2, e3, e4]
  exact h.tabs y hy
theorem rcells_on (pre r : List Ak) (a : Ak) : (rcells (pre ++ a :: r)).set (pre.length * 6 + 4) (.bool true) = rcells (pre ++ a.on :: r) := by
  have hl := rcells_length pre
  unfold rcells at *
  rw [List.flatMap_append, List.flatMap_append, List.flatMap_cons, List.flatMap_cons, List.set_append_right _ _ (by omega), hl]
  rw [show pre.length * 6 + 4 - pre.length * 6 = 4 from by omega]
  rfl
theorem Ov.rcell {w : World} {base g n c : Nat} {zs : List Ak} (h : Ov w base 96 6 (some ⟨g, 0, none⟩) n c (rcells zs)) {j : Nat} {x : Ak} (hx : zs[j]? = some x) :
    w.cell? ⟨g, j * 6, none⟩ = some (.int .i64 x.s) ∧ w.cell? ⟨g, j * 6 + 1, none⟩ = some (.int .i64 x.since) ∧ w.cell? ⟨g, j * 6 + 2, none⟩ = some (.int .i64 x.wait) ∧
      w.cell? ⟨g, j * 6 + 3, none⟩ = some (.bool x.first) ∧ w.cell? ⟨g, j * 6 + 4, none⟩ = some (.bool x.held) ∧ w.cell? ⟨g, j * 6 + 5, none⟩ = some (.slice x.A x.n x.c) := by
  obtain ⟨hj, hx⟩ := List.getElem?_eq_some_iff.1 hx
  have hl := h.1
  rw [rcells_length] at hl
  obtain ⟨b1, o1, hA, hgl, hc⟩ := h.rv.2.2.2 (by omega)
  injection hA with hA
  injection hA with hA1' hA2'
  subst hA1' hA2'
  have h1 := rcells_cell hc (fun _ => rfl) j hj
  rw [hx] at h1
  simpa only [Nat.zero_add] using h1
theorem results_lk {fn : Func} {s t : Tmp} (h : fn.results = #[.cell s 45, .tmp t]) (tmps : Array Value) (w : World) {B : Nat} {now : Int} {A : Option Addr} {n c : Nat} {v : Value} (hs : tmps.getD s undef = .pointer (some ⟨B, 0, none⟩)) (hv : tmps.getD t undef = v)
    (h0 : w.cell? ⟨B, 0, none⟩ = some (.int .i64 now)) (h1 : w.cell? ⟨B, 1, none⟩ = some (.slice A n c)) :
    (results fn tmps).run Tryd.prog w = .ok (.tuple #[.agg #[.int .i64 now, .slice A n c], v]) w := by
  rw [Array.getD_eq_getD_getElem?] at hs hv
  simp [results, h, hs, hv, go_sem, h0, h1]

structure SR (w wr : World) (now : Int) (A : Option Addr) (n c : Nat) (xs zs : List Ak) (A' : Option Addr) (c' : Nat) (hs : List Int) (R : Option Addr) (d : Nat) : Prop where
  bel : Below w.heap.size w wr
  kx : wr.heap[w.heap.size]? = some (.cells #[.int .i64 now, .slice A n c] 45 (0, 0))
  kr : wr.heap[w.heap.size + 1]? = some (.cells #[.int .i64 0, .slice none 0 0] 45 (0, 0))
  src : ∀ x ∈ zs, ∃ y ∈ xs, sameL x y
  row : Ov wr (w.heap.size + 2) 96 6 A' n c' (rcells zs)
  hold : Ov wr (w.heap.size + 2) 3 1 R hs.length d (icells hs)
  size : w.heap.size + 2 ≤ wr.heap.size
theorem SR.more {w wr w2 : World} {now : Int} {A : Option Addr} {n c : Nat} {xs zs : List Ak} {A' : Option Addr} {c' : Nat} {hs : List Int} {R : Option Addr} {d : Nat} (h : SR w wr now A n c xs zs A' c' hs R d) (hb : Below wr.heap.size wr w2) : SR w w2 now A n c xs zs A' c' hs R d :=
  ⟨gr h.bel hb, (hb.block _ (by have := h.size; omega)).trans h.kx, (hb.block _ (by have := h.size; omega)).trans h.kr, h.src, h.row.below hb, h.hold.below hb, Nat.le_trans h.size hb.size⟩
theorem SR.grown {w wr w2 : World} {now : Int} {A : Option Addr} {n c : Nat} {xs zs zs' : List Ak} {A' : Option Addr} {c' : Nat} {hs : List Int} {R : Option Addr} {d g : Nat} {A'' : Option Addr} {c'' : Nat} {cs : Array Value} (h : SR w wr now A n c xs zs A' c' hs R d) (hg : wr.grownBy w2 (some g)) (hgl : w.heap.size + 2 ≤ g) (ht : wr.heap[g]? = some (.cells cs 96 (0, 0)))
    (hrow : Ov w2 (w.heap.size + 2) 96 6 A'' n c'' (rcells zs')) (hsrc : ∀ x ∈ zs', ∃ y ∈ xs, sameL x y) : SR w w2 now A n c xs zs' A'' c'' hs R d :=
  ⟨h.bel.grown hg (by have := h.size; omega) (fun k e => by injection e with e; omega), (hg.block _ (by have := h.size; omega) (fun e => by injection e with e; omega)).trans h.kx, (hg.block _ (by have := h.size; omega) (fun e => by injection e with e; omega)).trans h.kr, hsrc, hrow,
    h.hold.grown hg (fun b hb e => h.hold.ne ht (by decide) (by rw [hb, e])), Nat.le_trans h.size hg.size⟩
theorem SR.app {w wr w2 : World} {now : Int} {A : Option Addr} {n c : Nat} {xs zs : List Ak} {A' : Option Addr} {c' : Nat} {hs hs' : List Int} {R R' : Option Addr} {d d' : Nat} (h : SR w wr now A n c xs zs A' c' hs R d) (hg : wr.grownBy w2 (ab R)) (ho : Ov w2 (w.heap.size + 2) 3 1 R' hs'.length d' (icells hs')) : SR w w2 now A n c xs zs A' c' hs' R' d' :=
  ⟨h.bel.grown hg (by have := h.size; omega) (fun k e => by have := (h.hold.ab k e).1; omega), (hg.block _ (by have := h.size; omega) (fun e => by have := (h.hold.ab _ e.symm).1; omega)).trans h.kx, (hg.block _ (by have := h.size; omega) (fun e => by have := (h.hold.ab _ e.symm).1; omega)).trans h.kr, h.src,
    h.row.grown hg (h.row.neOv h.hold (by decide)), ho, Nat.le_trans h.size hg.size⟩
theorem Ov.boxSet {w : World} {base : Nat} {e e' : TypeId} {size n c : Nat} {A : Option Addr} {xs : List Value} {B : Nat} {cs : Array Value} {fr : Nat × Nat} (h : Ov w base e size A n c xs) (hk : w.heap[B]? = some (.cells cs e' fr)) (hne : e ≠ e') (j : Nat) (v : Value) : Ov (w.setCell ⟨B, j, none⟩ v) base e size A n c xs :=
  h.grown (grownBy_at w B j v) (fun b hb e => h.ne hk hne (by rw [hb, e]))

set_option maxRecDepth 100000 in
set_option maxHeartbeats 8000000 in
theorem RSet_any {w : World} {base : Nat} {now : Int} {A : Option Addr} {n c : Nat} {xs : List Ak} (h : RK w base A n c xs) (hbs : base ≤ w.heap.size) (hn : n < 20) :
    Calls Tryd.prog 62 #[.agg #[.int .i64 now, .slice A n c]] w fun e w' => ∃ A' c' R d, e = .returned (.tuple #[.agg #[.int .i64 now, .slice A' n c'], .slice R (settleK xs).2.length d]) ∧
      RK w' base A' n c' (settleK xs).1 ∧ Ov w' w.heap.size 3 1 R (settleK xs).2.length d (icells (settleK xs).2) ∧ Below w.heap.size w w' := by
  obtain ⟨iS, hiS, hzS, hsS, hbS⟩ := info_parts info_I
  obtain ⟨iR, hiR, hzR, hsR, hbR⟩ := info_parts info_R
  have hb0 : Below w.heap.size w (w.alloc (.cells #[.int .i64 now, .slice A n c] 45)) := (Below.refl _ _).alloc (Nat.le_refl _) _
  have hb1 : Below (w.alloc (.cells #[.int .i64 now, .slice A n c] 45)).heap.size (w.alloc (.cells #[.int .i64 now, .slice A n c] 45)) ((w.alloc (.cells #[.int .i64 now, .slice A n c] 45)).alloc (.cells #[.int .i64 0, .slice none 0 0] 45)) := (Below.refl _ _).alloc (Nat.le_refl _) _
  have kx := (hb1.block w.heap.size (by simp)).trans (World.alloc_heap_new w (.cells #[.int .i64 now, .slice A n c] 45))
  have kr := World.alloc_heap_new (w.alloc (.cells #[.int .i64 now, .slice A n c] 45)) (.cells #[.int .i64 0, .slice none 0 0] 45)
  rw [World.size_alloc] at kr
  have hb2 := gr hb0 hb1
  have hsz : ((w.alloc (.cells #[.int .i64 now, .slice A n c] 45)).alloc (.cells #[.int .i64 0, .slice none 0 0] 45)).heap.size = w.heap.size + 1 + 1 := by simp
  have hst : settleK xs = (ordK (goK [] (ordK xs)).1, (goK [] (ordK xs)).2) := rfl
  have htab := h.tabsOf (settle_src xs)
  have hsrc : ∀ x ∈ ordK xs, ∃ y ∈ xs, sameL x y := fun y hy => ⟨y, mem_ordK.1 hy, rfl, rfl, rfl, rfl⟩
  have hro := Lib.hid (fun W (hW : Below w.heap.size w W) => ROrd_any A n c xs W (h.own.rv.below hW) (by omega))
  have htx := Lib.hid (fun x (hx : x ∈ xs) W (hW : Below w.heap.size w W) => (h.tabs x hx).rv.below hW)
  rw [hst] at htab ⊢
  clear hst hb0 hb1 h
  replace htab := Lib.hid htab
  generalize ordK xs = ys at *
  go_enter Tryd.func62, Tryd.ntmps62
  go_upto_region 1 with fail
  generalize ((w.alloc (.cells #[.int .i64 now, .slice A n c] 45)).alloc (.cells #[.int .i64 0, .slice none 0 0] 45)) = w2 at *
  have cx := (box_cells kx).1
  go_wp2_with fail
  refine (hro.out w2 hb2).mono ?_
  rintro e w3 ⟨A3, c3, rfl, hO3, hb3⟩
  have kx3 := (hb3.block w.heap.size (by omega)).trans kx
  have kr3 := (hb3.block (w.heap.size + 1) (by omega)).trans kr
  have hb3' := gr hb2 hb3
  have hl3 : ys.length = n := by have := hO3.1; rw [rcells_length] at this; omega
  have hO3' : Ov w3 w2.heap.size 96 6 A3 n c3 (rcells ys) := hO3
  clear kx kr hb2 hb3 hO3 hro cx
  have hz2 : w.heap.size ≤ w2.heap.size := by omega
  have hSR : SR w w3 now A n c xs ys A3 c3 [] none 0 := ⟨hb3', kx3, kr3, hsrc, hO3'.ge (by omega), Ov.nil _ _ _ _, by have := (Array.getElem?_eq_some_iff.1 kr3).1; omega⟩
  clear hb3' kx3 kr3 hO3'
  go_wp2_with fail
  go_loopw [4, 5, 6] (fun a o p wr => ∃ (pre r : List Ak) (hs : List Int) (A' : Option Addr) (c' : Nat) (R : Option Addr) (d : Nat), p = .int .i64 (pre.length : Int) ∧ pre.length + r.length = n ∧ goK [] ys = ((goK pre r).1, hs ++ (goK pre r).2) ∧ hs.length ≤ pre.length ∧ a = .slice A' n c' ∧ o = .slice R hs.length d ∧ SR w wr now A n c xs (pre ++ r) A' c' hs R d)
    (fun a o p wr => n - (intOf p).toNat)
  case atStart => exact ⟨[], ys, [], A3, c3, none, 0, rfl, by simpa using hl3, rfl, Nat.le_refl _, rfl, rfl, hSR⟩
  case round =>
    clear hSR hsrc
    obtain ⟨pre, r, hs, A', c', R, d, rfl, hl, hgo, hsl, rfl, rfl, hK⟩ := hrel
    have hcap : c' ≤ 9223372036854775807 := hK.row.rv.2.2.1
    have hle := hK.row.rv.2.1
    cases r with
    | cons a r =>
      have hl' : pre.length + (r.length + 1) = n := hl
      have hlt : decide ((pre.length : Int) < (n : Int)) = true := by simp; omega
      have hlt1 : (pre.length : Int) < (n : Int) := by omega
      rcases hK.row.first with ⟨_, h0, _⟩ | ⟨g, rfl⟩
      · omega
      have e1 := hK.row.rcell (j := pre.length) (x := a) (by simp)
      have hsa := hK.src a (by simp)
      have hgoK := hgo
      rw [goK] at hgoK
      obtain ⟨x0, x1, x2, x3, x4, x5, x6, x7, x8⟩ := a
      simp only at e1 hgoK
      cases x4 with
      | true =>
        have hN : goK [] ys = ((goK (pre ++ [⟨x0, x1, x2, x3, true, x5, x6, x7, x8⟩]) r).1, hs ++ (goK (pre ++ [⟨x0, x1, x2, x3, true, x5, x6, x7, x8⟩]) r).2) := hgoK
        have hK2 : SR w wr now A n c xs ((pre ++ [⟨x0, x1, x2, x3, true, x5, x6, x7, x8⟩]) ++ r) (some ⟨g, 0, none⟩) c' hs R d := by simpa using hK
        replace hN := Lib.hid hN
        clear hgo hgoK hK
        go_wp2
        refine ⟨⟨pre ++ [Ak.mk x0 x1 x2 x3 true x5 x6 x7 x8], r, hs, some ⟨g, 0, none⟩, c', R, d, by simp, by simp; omega, hN.out, by simp; omega, rfl, rfl, hK2⟩, by simp [intOf]; omega⟩
      | false =>
        replace hgoK := Lib.hid hgoK
        clear hgo
        obtain ⟨wo, hwo⟩ : ∃ wo, wo = wr := ⟨_, rfl⟩
        subst hwo
        go_wp2
        go_loopw [7, 8] (fun f p wr => ∃ k : Nat, p = .int .i64 (k : Int) ∧ k ≤ pre.length ∧ f = .bool (!((pre.take k).any fun o => ag x5 o.W)) ∧ Below wo.heap.size wo wr)
          (fun f p wr => pre.length - (intOf p).toNat)
        case atStart => exact ⟨0, rfl, by omega, rfl, Below.refl _ _⟩
        case round =>
          obtain ⟨k, rfl, hk, rfl, hbw⟩ := hrel
          by_cases hltk : k < pre.length
          · have hltk1 : decide ((k : Int) < (pre.length : Int)) = true := by simp; omega
            have hltk2 : (k : Int) < (n : Int) := by omega
            have hKw := hK.more hbw
            have hKs := Lib.hid hK
            have htk : pre.take (k + 1) = pre.take k ++ [pre[k]'(by omega)] := List.take_succ_eq_append_getElem (by omega)
            have hmo : pre[k]'(by omega) ∈ pre ++ (Ak.mk x0 x1 x2 x3 false x5 x6 x7 x8) :: r := List.mem_append_left _ (List.getElem_mem _)
            have hso := hK.src _ hmo
            have hgo : (pre ++ (Ak.mk x0 x1 x2 x3 false x5 x6 x7 x8) :: r)[k]? = some (pre[k]'(by omega)) := by rw [List.getElem?_append_left (by omega), List.getElem?_eq_getElem]
            generalize pre[k]'(by omega) = o at *
            have hsn := any_snoc (fun o => ag x5 o.W) (pre.take k) o
            rw [← htk] at hsn
            obtain ⟨o0, o1, o2, o3, o4, o5, o6, o7, o8⟩ := o
            have hS : ∀ W, Below wr.heap.size wr W → (fun W => (W.cell? ⟨g, pre.length * 6, none⟩ = some (.int .i64 x0) ∧ W.cell? ⟨g, pre.length * 6 + 1, none⟩ = some (.int .i64 x1) ∧ W.cell? ⟨g, pre.length * 6 + 2, none⟩ = some (.int .i64 x2) ∧ W.cell? ⟨g, pre.length * 6 + 3, none⟩ = some (.bool x3) ∧ W.cell? ⟨g, pre.length * 6 + 4, none⟩ = some (.bool false) ∧ W.cell? ⟨g, pre.length * 6 + 5, none⟩ = some (.slice x6 x7 x8)) ∧ (W.cell? ⟨g, k * 6, none⟩ = some (.int .i64 o0) ∧ W.cell? ⟨g, k * 6 + 1, none⟩ = some (.int .i64 o1) ∧ W.cell? ⟨g, k * 6 + 2, none⟩ = some (.int .i64 o2) ∧ W.cell? ⟨g, k * 6 + 3, none⟩ = some (.bool o3) ∧ W.cell? ⟨g, k * 6 + 4, none⟩ = some (.bool o4) ∧ W.cell? ⟨g, k * 6 + 5, none⟩ = some (.slice o6 o7 o8))) W := fun W hW => ⟨(hKw.more hW).row.rcell (j := pre.length) (x := Ak.mk x0 x1 x2 x3 false x5 x6 x7 x8) (by simp), (hKw.more hW).row.rcell (j := k) hgo⟩
            have hdr : Below wr.heap.size wr wr.drew := (Below.refl _ _).drew
            have hcall : Calls Tryd.prog 75 #[.agg (Ak.rcells ⟨x0, x1, x2, x3, false, x5, x6, x7, x8⟩).toArray, .agg (Ak.rcells ⟨o0, o1, o2, o3, o4, o5, o6, o7, o8⟩).toArray] wr.drew fun e w' => e = .returned (.bool (ag x5 o5)) ∧ Below wr.drew.heap.size wr.drew w' := by
              obtain ⟨y, hy, e1, e2, e3, e4⟩ := hsa
              obtain ⟨z, hz, f1, f2, f3, f4⟩ := hso
              simp only at e1 e2 e3 e4 f1 f2 f3 f4
              subst e1 e2 e3 e4 f1 f2 f3 f4
              exact RAg_any _ _ wr.drew (htx.out y hy _ (gr hKw.bel hdr)) (htx.out z hz _ (gr hKw.bel hdr))
            simp only [Ak.rcells] at hcall
            replace hcall := Lib.hid hcall
            replace hsn := Lib.hid hsn
            have hS0 := hS wr (Below.refl _ _)
            replace hS := Lib.hid hS
            clear hso hgo hmo htk
            generalize hq : (pre.take k).any (fun o => ag x5 o.W) = q at *
            go_wp2_with fail
            refine wp_region_noPanic ?_
            refine wp_region_held_drew (S := (fun W => (W.cell? ⟨g, pre.length * 6, none⟩ = some (.int .i64 x0) ∧ W.cell? ⟨g, pre.length * 6 + 1, none⟩ = some (.int .i64 x1) ∧ W.cell? ⟨g, pre.length * 6 + 2, none⟩ = some (.int .i64 x2) ∧ W.cell? ⟨g, pre.length * 6 + 3, none⟩ = some (.bool x3) ∧ W.cell? ⟨g, pre.length * 6 + 4, none⟩ = some (.bool false) ∧ W.cell? ⟨g, pre.length * 6 + 5, none⟩ = some (.slice x6 x7 x8)) ∧ (W.cell? ⟨g, k * 6, none⟩ = some (.int .i64 o0) ∧ W.cell? ⟨g, k * 6 + 1, none⟩ = some (.int .i64 o1) ∧ W.cell? ⟨g, k * 6 + 2, none⟩ = some (.int .i64 o2) ∧ W.cell? ⟨g, k * 6 + 3, none⟩ = some (.bool o3) ∧ W.cell? ⟨g, k * 6 + 4, none⟩ = some (.bool o4) ∧ W.cell? ⟨g, k * 6 + 5, none⟩ = some (.slice o6 o7 o8)))) (by kernel_rfl) hS0 (fun hHeld => ?_)
            cases q with
            | true =>
              have hN : (pre.take (k + 1)).any (fun o => ag x5 o.W) = true := by rw [hsn.out]; rfl
              replace hN := Lib.hid hN
              refine wpAnyH_takeL (i := 0) (v := ?vhy1) rfl (by kernel_rfl) (by kernel_rfl) (by kernel_rfl) (fun _ _ _ h => h) (Or.inl ⟨by rfl, ?hy1⟩) (by assumption) ?rhy1
              case hy1 => ((intro w hSw; (try dsimp only at hSw); go_simp); try with_reducible rfl)
              try simp only [Act.put, List.setIfInBounds_toArray, List.set_cons_zero, List.set_cons_succ]
              refine wpAnyH_takeL (i := 1) (v := ?vhy2) rfl (by kernel_rfl) (by kernel_rfl) (by kernel_rfl) (fun _ _ _ h => h) (Or.inl ⟨by rfl, ?hy2⟩) (by assumption) ?rhy2
              case hy2 => ((intro w hSw; (try dsimp only at hSw); go_simp); try with_reducible rfl)
              try simp only [Act.put, List.setIfInBounds_toArray, List.set_cons_zero, List.set_cons_succ]
              refine wpAnyH_takeL (i := 2) (v := undef) rfl (by kernel_rfl) (by kernel_rfl) (by kernel_rfl) (fun _ _ _ h => h) (Or.inr ⟨by rfl, rfl⟩) (by assumption) ?_
              try simp only [Act.put, List.setIfInBounds_toArray, List.set_cons_zero, List.set_cons_succ]
              refine wpAnyH_takeL (i := 3) (v := undef) rfl (by kernel_rfl) (by kernel_rfl) (by kernel_rfl) (fun _ _ _ h => h) (Or.inr ⟨by rfl, rfl⟩) (by assumption) ?_
              try simp only [Act.put, List.setIfInBounds_toArray, List.set_cons_zero, List.set_cons_succ]
              refine wpAnyH_takeL (i := 4) (v := undef) rfl (by kernel_rfl) (by kernel_rfl) (by kernel_rfl) (fun _ _ _ h => h) (Or.inr ⟨by rfl, rfl⟩) (by assumption) ?_
              try simp only [Act.put, List.setIfInBounds_toArray, List.set_cons_zero, List.set_cons_succ]
              refine wpAnyH_takeL (i := 5) (v := undef) rfl (by kernel_rfl) (by kernel_rfl) (by kernel_rfl) (fun _ _ _ h => h) (Or.inr ⟨by rfl, rfl⟩) (by assumption) ?_
              try simp only [Act.put, List.setIfInBounds_toArray, List.set_cons_zero, List.set_cons_succ]
              refine wpAnyH_takeL (i := 6) (v := undef) rfl (by kernel_rfl) (by kernel_rfl) (by kernel_rfl) (fun _ _ _ h => h) (Or.inr ⟨by rfl, rfl⟩) (by assumption) ?_
              try simp only [Act.put, List.setIfInBounds_toArray, List.set_cons_zero, List.set_cons_succ]
              refine wpAnyH_takeL (i := 7) (v := undef) rfl (by kernel_rfl) (by kernel_rfl) (by kernel_rfl) (fun _ _ _ h => h) (Or.inr ⟨by rfl, rfl⟩) (by assumption) ?_
              try simp only [Act.put, List.setIfInBounds_toArray, List.set_cons_zero, List.set_cons_succ]
              refine wpAnyH_takeL (i := 8) (v := undef) rfl (by kernel_rfl) (by kernel_rfl) (by kernel_rfl) (fun _ _ _ h => h) (Or.inr ⟨by rfl, rfl⟩) (by assumption) ?_
              try simp only [Act.put, List.setIfInBounds_toArray, List.set_cons_zero, List.set_cons_succ]
              refine wpAnyH_takeL (i := 9) (v := undef) rfl (by kernel_rfl) (by kernel_rfl) (by kernel_rfl) (fun _ _ _ h => h) (Or.inr ⟨by rfl, rfl⟩) (by assumption) ?_
              try simp only [Act.put, List.setIfInBounds_toArray, List.set_cons_zero, List.set_cons_succ]
              refine wpAnyH_takeL (i := 10) (v := undef) rfl (by kernel_rfl) (by kernel_rfl) (by kernel_rfl) (fun _ _ _ h => h) (Or.inr ⟨by rfl, rfl⟩) (by assumption) ?_
              try simp only [Act.put, List.setIfInBounds_toArray, List.set_cons_zero, List.set_cons_succ]
              refine wpAnyH_takeL (i := 11) (v := undef) rfl (by kernel_rfl) (by kernel_rfl) (by kernel_rfl) (fun _ _ _ h => h) (Or.inr ⟨by rfl, rfl⟩) (by assumption) ?_
              try simp only [Act.put, List.setIfInBounds_toArray, List.set_cons_zero, List.set_cons_succ]
              refine wpAnyH_takeL (i := 12) (v := ?vhy3) rfl (by kernel_rfl) (by kernel_rfl) (by kernel_rfl) (fun _ _ _ h => h) (Or.inl ⟨by rfl, ?hy3⟩) (by assumption) ?rhy3
              case hy3 => ((intro w hSw; (try dsimp only at hSw); go_simp); try with_reducible rfl)
              try simp only [Act.put, List.setIfInBounds_toArray, List.set_cons_zero, List.set_cons_succ]
              refine wpAnyH_takeL (i := 13) (v := ?vhy4) rfl (by kernel_rfl) (by kernel_rfl) (by kernel_rfl) (fun _ _ _ h => h) (Or.inl ⟨by rfl, ?hy4⟩) (by assumption) ?rhy4
              case hy4 => ((intro w hSw; (try dsimp only at hSw); go_simp); try with_reducible rfl)
              try simp only [Act.put, List.setIfInBounds_toArray, List.set_cons_zero, List.set_cons_succ]
              refine wpAnyH_done (by kernel_rfl) ?_ _
              refine NoPanic.normal ?_
              clear hHeld hS0
              go_wp2
              exact ⟨⟨k + 1, by simp, by omega, by rw [hN.out]; rfl, gr hbw hdr⟩, by simp [intOf]; omega⟩
            | false =>
              have hN : (pre.take (k + 1)).any (fun o => ag x5 o.W) = ag x5 o5 := by rw [hsn.out]; rfl
              replace hN := Lib.hid hN
              refine wpAnyH_takeL (i := 0) (v := ?vhy5) rfl (by kernel_rfl) (by kernel_rfl) (by kernel_rfl) (fun _ _ _ h => h) (Or.inl ⟨by rfl, ?hy5⟩) (by assumption) ?rhy5
              case hy5 => ((intro w hSw; (try dsimp only at hSw); go_simp); try with_reducible rfl)
              try simp only [Act.put, List.setIfInBounds_toArray, List.set_cons_zero, List.set_cons_succ]
              refine wpAnyH_takeL (i := 1) (v := ?vhy6) rfl (by kernel_rfl) (by kernel_rfl) (by kernel_rfl) (fun _ _ _ h => h) (Or.inl ⟨by rfl, ?hy6⟩) (by assumption) ?rhy6
              case hy6 => ((intro w hSw; (try dsimp only at hSw); go_simp); try with_reducible rfl)
              try simp only [Act.put, List.setIfInBounds_toArray, List.set_cons_zero, List.set_cons_succ]
              refine wpAnyH_takeL (i := 2) (v := ?vhy7) rfl (by kernel_rfl) (by kernel_rfl) (by kernel_rfl) (fun _ _ _ h => h) (Or.inl ⟨by rfl, ?hy7⟩) (by assumption) ?rhy7
              case hy7 => ((intro w hSw; (try dsimp only at hSw); go_simp); try with_reducible rfl)
              try simp only [Act.put, List.setIfInBounds_toArray, List.set_cons_zero, List.set_cons_succ]
              refine wpAnyH_takeL (i := 3) (v := ?vhy8) rfl (by kernel_rfl) (by kernel_rfl) (by kernel_rfl) (fun _ _ _ h => h) (Or.inl ⟨by rfl, ?hy8⟩) (by assumption) ?rhy8
              case hy8 => ((intro w hSw; (try dsimp only at hSw); go_simp); try with_reducible rfl)
              try simp only [Act.put, List.setIfInBounds_toArray, List.set_cons_zero, List.set_cons_succ]
              refine wpAnyH_takeL (i := 4) (v := ?vhy9) rfl (by kernel_rfl) (by kernel_rfl) (by kernel_rfl) (fun _ _ _ h => h) (Or.inl ⟨by rfl, ?hy9⟩) (by assumption) ?rhy9
              case hy9 => ((intro w hSw; (try dsimp only at hSw); go_simp); try with_reducible rfl)
              try simp only [Act.put, List.setIfInBounds_toArray, List.set_cons_zero, List.set_cons_succ]
              refine wpAnyH_takeL (i := 5) (v := ?vhy10) rfl (by kernel_rfl) (by kernel_rfl) (by kernel_rfl) (fun _ _ _ h => h) (Or.inl ⟨by rfl, ?hy10⟩) (by assumption) ?rhy10
              case hy10 => ((intro w hSw; (try dsimp only at hSw); go_simp); try with_reducible rfl)
              try simp only [Act.put, List.setIfInBounds_toArray, List.set_cons_zero, List.set_cons_succ]
              refine wpAnyH_takeL (i := 6) (v := ?vhy11) rfl (by kernel_rfl) (by kernel_rfl) (by kernel_rfl) (fun _ _ _ h => h) (Or.inl ⟨by rfl, ?hy11⟩) (by assumption) ?rhy11
              case hy11 => ((intro w hSw; (try dsimp only at hSw); go_simp); try with_reducible rfl)
              try simp only [Act.put, List.setIfInBounds_toArray, List.set_cons_zero, List.set_cons_succ]
              refine wpAnyH_takeL (i := 7) (v := ?vhy12) rfl (by kernel_rfl) (by kernel_rfl) (by kernel_rfl) (fun _ _ _ h => h) (Or.inl ⟨by rfl, ?hy12⟩) (by assumption) ?rhy12
              case hy12 => ((intro w hSw; (try dsimp only at hSw); go_simp); try with_reducible rfl)
              try simp only [Act.put, List.setIfInBounds_toArray, List.set_cons_zero, List.set_cons_succ]
              refine wpAnyH_takeL (i := 8) (v := ?vhy13) rfl (by kernel_rfl) (by kernel_rfl) (by kernel_rfl) (fun _ _ _ h => h) (Or.inl ⟨by rfl, ?hy13⟩) (by assumption) ?rhy13
              case hy13 => ((intro w hSw; (try dsimp only at hSw); go_simp); try with_reducible rfl)
              try simp only [Act.put, List.setIfInBounds_toArray, List.set_cons_zero, List.set_cons_succ]
              refine wpAnyH_takeL (i := 9) (v := ?vhy14) rfl (by kernel_rfl) (by kernel_rfl) (by kernel_rfl) (fun _ _ _ h => h) (Or.inl ⟨by rfl, ?hy14⟩) (by assumption) ?rhy14
              case hy14 => ((intro w hSw; (try dsimp only at hSw); go_simp); try with_reducible rfl)
              try simp only [Act.put, List.setIfInBounds_toArray, List.set_cons_zero, List.set_cons_succ]
              refine wpAnyH_ready (rs := [10]) (by kernel_rfl) (by simp) ?_
              refine AllReadyH.consL (i := 10) rfl (fun K hK => ?_) AllReadyH.nil
              go_simp
              refine hcall.out.mono ?_
              rintro e w4 ⟨rfl, hb4⟩
              clear hHeld hS0
              have hS0 := hS.out _ (gr hdr hb4)
              refine hK.out _ _ hS0 (fun hHeld => ?_)
              clear hcall hHeld
              try simp only [Act.put, List.setIfInBounds_toArray, List.set_cons_zero, List.set_cons_succ]
              refine wpAnyH_takeL (i := 11) (v := ?vhy15) rfl (by kernel_rfl) (by kernel_rfl) (by kernel_rfl) (fun _ _ _ h => h) (Or.inl ⟨by rfl, ?hy15⟩) (by assumption) ?rhy15
              case hy15 => ((intro w hSw; (try dsimp only at hSw); go_simp); try with_reducible rfl)
              try simp only [Act.put, List.setIfInBounds_toArray, List.set_cons_zero, List.set_cons_succ]
              refine wpAnyH_takeL (i := 12) (v := ?vhy16) rfl (by kernel_rfl) (by kernel_rfl) (by kernel_rfl) (fun _ _ _ h => h) (Or.inl ⟨by rfl, ?hy16⟩) (by assumption) ?rhy16
              case hy16 => ((intro w hSw; (try dsimp only at hSw); go_simp); try with_reducible rfl)
              try simp only [Act.put, List.setIfInBounds_toArray, List.set_cons_zero, List.set_cons_succ]
              refine wpAnyH_takeL (i := 13) (v := ?vhy17) rfl (by kernel_rfl) (by kernel_rfl) (by kernel_rfl) (fun _ _ _ h => h) (Or.inl ⟨by rfl, ?hy17⟩) (by assumption) ?rhy17
              case hy17 => ((intro w hSw; (try dsimp only at hSw); go_simp); try with_reducible rfl)
              try simp only [Act.put, List.setIfInBounds_toArray, List.set_cons_zero, List.set_cons_succ]
              refine wpAnyH_done (by kernel_rfl) ?_ _
              refine NoPanic.normal ?_
              clear hS0
              go_wp2
              exact ⟨⟨k + 1, by simp, by omega, by rw [hN.out], gr hbw (gr hdr hb4)⟩, by simp [intOf]; omega⟩
          · obtain rfl : k = pre.length := by omega
            have hltk1 : decide ((pre.length : Int) < (pre.length : Int)) = false := by simp
            rw [List.take_length]
            have hK3 := hK.more hbw
            have hgz := (hK.row.ab g rfl).1
            clear hK e1 hbw
            cases hq : pre.any (fun o => ag x5 o.W) with
            | true =>
              have hN : goK [] ys = ((goK (pre ++ [⟨x0, x1, x2, x3, false, x5, x6, x7, x8⟩]) r).1, hs ++ (goK (pre ++ [⟨x0, x1, x2, x3, false, x5, x6, x7, x8⟩]) r).2) := by
                have := hgoK.out
                rw [hq] at this
                exact this
              have hK2 : SR w wr now A n c xs ((pre ++ [⟨x0, x1, x2, x3, false, x5, x6, x7, x8⟩]) ++ r) (some ⟨g, 0, none⟩) c' hs R d := by simpa using hK3
              replace hN := Lib.hid hN
              clear hgoK hK3 hq
              go_wp2
              refine ⟨⟨pre ++ [Ak.mk x0 x1 x2 x3 false x5 x6 x7 x8], r, hs, some ⟨g, 0, none⟩, c', R, d, by simp, by simp; omega, hN.out, by simp; omega, rfl, rfl, hK2⟩, by simp [intOf]; omega⟩
            | false =>
              have hN : goK [] ys = ((goK (pre ++ [Ak.on ⟨x0, x1, x2, x3, false, x5, x6, x7, x8⟩]) r).1, (hs ++ [x0]) ++ (goK (pre ++ [Ak.on ⟨x0, x1, x2, x3, false, x5, x6, x7, x8⟩]) r).2) := by
                have := hgoK.out
                rw [hq] at this
                simpa using this
              replace hN := Lib.hid hN
              clear hgoK hq
              have hba : Below wr.heap.size wr (wr.alloc (.cells #[] 96)) := (Below.refl _ _).alloc (Nat.le_refl _) _
              have hka := World.alloc_heap_new wr (.cells #[] 96)
              have hOa : Ov (wr.alloc (.cells #[] 96)) wr.heap.size 96 6 (some ⟨wr.heap.size, 0, none⟩) 0 0 [] := by
                have h := World.ownsRow_lit (base := wr.heap.size) (e := 96) (size := 6) wr #[] 0 (Nat.le_refl _) (by simp [maxLen]) (by simp)
                simpa [Ov] using h
              have hK4 := hK3.more hba
              have hr4 := hK4.row.rv
              have h1r := rcells_one (pre ++ (Ak.mk x0 x1 x2 x3 false x5 x6 x7 x8) :: r)
              have hsz4 := hK3.size
              have hsz5 : (wr.alloc (.cells #[] 96)).heap.size = wr.heap.size + 1 := by simp
              clear hba hK3
              replace hK4 := Lib.hid hK4
              go_upto_region 15 with (at_builtin; refine wpList_append_v _ rfl _ _ 43 rfl 96 iR zeroR 6 56 Tryd.underlying43 hiR hzR hsR hbR rfl (by decide) wr.heap.size _ 0 0 _ rfl hOa (some ⟨g, 0, none⟩) n c' (rcells (pre ++ (Ak.mk x0 x1 x2 x3 false x5 x6 x7 x8) :: r)) rfl hr4 h1r (by unfold maxLen; omega) (by omega) (by simp) ?_; intro A4 c4 w4 hO4 hg4 hab4; simp only [Nat.zero_add, List.nil_append] at hO4; rcases hO4.first with ⟨_, h0, _⟩ | ⟨g4, rfl⟩; exact absurd h0 (by omega); have hg4g := (hO4.ab g4 rfl).1; have hK5 := hK4.out.grown hg4 hsz4 hka (hO4.ge hsz4) hK4.out.src; have cc4 := hK5.row.rcell (j := pre.length) (x := Ak.mk x0 x1 x2 x3 false x5 x6 x7 x8) (by simp); have ff4 : w4.frozen? ⟨g4, pre.length * 6 + 4, none⟩ = false := World.ownsRow.frozenAt hK5.row _; have hcap4 := hO4.rv.2.2.1; have hle4 := hO4.rv.2.1; simp only at cc4; replace hK5 := Lib.hid hK5; clear hO4 hg4 hab4 hK4 hka hOa hr4 h1r)
              obtain ⟨cs4, hcs4⟩ := hK5.out.row.block g4 rfl
              have hst4 := World.ownsRow.stored hK5.out.row (pre.length * 6 + 4) (.bool true)
              rw [rcells_on] at hst4
              have hK6 : SR w (w4.setCell ⟨g4, pre.length * 6 + 4, none⟩ (.bool true)) now A n c xs (pre ++ (Ak.mk x0 x1 x2 x3 false x5 x6 x7 x8).on :: r) (some ⟨g4, 0, none⟩) c4 hs R d := hK5.out.grown hst4.2 (by omega) hcs4 hst4.1 (fun x hx => by
                rcases List.mem_append.1 hx with hx | hx
                · exact hK5.out.src x (List.mem_append_left _ hx)
                · rcases List.mem_cons.1 hx with rfl | hx
                  · exact hK5.out.src (Ak.mk x0 x1 x2 x3 false x5 x6 x7 x8) (List.mem_append_right _ (by simp))
                  · exact hK5.out.src x (List.mem_append_right _ (List.mem_cons_of_mem _ hx)))
              clear hst4 hcs4 hK5 cc4 ff4
              generalize (w4.setCell ⟨g4, pre.length * 6 + 4, none⟩ (.bool true)) = w5 at *
              have c5 := (hK6.row.rcell (j := pre.length) (x := (Ak.mk x0 x1 x2 x3 false x5 x6 x7 x8).on) (by simp)).1
              simp only [Ak.on] at c5
              have hba : Below w5.heap.size w5 (w5.alloc (.cells #[.int .i64 x0] 3)) := (Below.refl _ _).alloc (Nat.le_refl _) _
              have hK7 := hK6.more hba
              have hr5 := Rv.lit (w := w5) 3 1 [.int .i64 x0] 1 rfl (by decide)
              have hR5 := hK7.hold
              have hil : hs.length ≤ 20 := by omega
              have hz7 := hK7.size
              clear hba hK6
              replace hK7 := Lib.hid hK7
              go_wp2_with (at_builtin; refine wpList_append_v _ rfl _ _ 36 rfl 3 iS (.int .i64 0) 1 8 Tryd.underlying36 hiS hzS hsS hbS rfl (by decide) (w.heap.size + 2) R hs.length d (icells hs) rfl hR5 (some ⟨w5.heap.size, 0, none⟩) 1 1 [.int .i64 x0] rfl hr5 (by simp [Value.oneCell']) (by unfold maxLen; omega) (by omega) hz7 ?_; intro R' d' w6 hO6 hg6 hab6)
              have hK8 := hK7.out.app (hs' := hs ++ [x0]) hg6 (by simpa [icells] using hO6)
              refine ⟨⟨pre ++ [Ak.on (Ak.mk x0 x1 x2 x3 false x5 x6 x7 x8)], r, hs ++ [x0], some ⟨g4, 0, none⟩, c4, R', d', by simp, by simp; omega, hN.out, by simp; omega, rfl, by simp, by simpa using hK8⟩, by simp [intOf]; omega⟩
    | nil =>
      have hN : goK [] ys = (pre, hs) := by
        have := hgo
        rw [goK] at this
        simpa using this
      have hln : pre.length = n := by simpa using hl
      have hlt : decide ((pre.length : Int) < (n : Int)) = false := by simp; omega
      rw [List.append_nil] at hK
      have hso := Lib.hid (ROrd_any A' n c' pre wr hK.row.rv (by omega))
      replace hN := Lib.hid hN
      clear hgo
      go_wp2_with fail
      refine hso.out.mono ?_
      rintro e w4 ⟨A2, c2, rfl, hO4, hb4⟩
      have hK4 := hK.more hb4
      have ⟨cx4, fx4⟩ := box_cells hK4.kx
      have ⟨cr4, fr4⟩ := box_cells hK4.kr
      have hz := hK.size
      have hz4 := hK4.size
      clear hso
      go_wp2
      rw [hN.out] at htab ⊢
      have k1 := heap_set1 (v' := .slice A2 n c2) hK4.kx
      have r1 := ((grownBy_at w4 w.heap.size 1 (.slice A2 n c2)).block (w.heap.size + 1) (by omega) (fun e => by injection e; omega)).trans hK4.kr
      have r2 := heap_set0 (u' := .int .i64 now) r1
      have r3 := heap_set1 (v' := .slice A2 n c2) r2
      have c3 := (box_cells r3).1
      have hO7 := ((hO4.boxSet hK4.kx (by decide) 1 (.slice A2 n c2)).boxSet r1 (by decide) 0 (.int .i64 now)).boxSet r2 (by decide) 1 (.slice A2 n c2)
      have hH7 := ((hK4.hold.boxSet hK4.kx (by decide) 1 (.slice A2 n c2)).boxSet r1 (by decide) 0 (.int .i64 now)).boxSet r2 (by decide) 1 (.slice A2 n c2)
      have hB7 := ((hK4.bel.setCell (p := ⟨w.heap.size, 1, none⟩) (Nat.le_refl _) (.slice A2 n c2)).setCell (p := ⟨w.heap.size + 1, 0, none⟩) (Nat.le_succ _) (.int .i64 now)).setCell (p := ⟨w.heap.size + 1, 1, none⟩) (Nat.le_succ _) (.slice A2 n c2)
      refine bodyPost_ret (results_lk rfl _ _ rfl rfl c3.1 c3.2) rfl ?_
      exact ⟨A2, c2, R, d, rfl, ⟨hO7.ge (by omega), fun x hx => (htab.out x hx).below hB7⟩, hH7.ge (by omega), hB7⟩
end Go.Proofs.YtnjhhibjcfjhnaaDoor
