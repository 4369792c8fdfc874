/- Locks: are two lists of wants against each other; may wants be; there. -/
import Derived.Test.YtnjhhibjcfjhnaaDoorLkB
namespace Go.Proofs.YtnjhhibjcfjhnaaDoor
open Go.RowKit
set_option linter.unusedVariables false

theorem eAg : ∀ args w, (callFunc 72 args).run Tryd.prog w = .ok (.enter 72 args) w := enters_of Tryd.func72 (by kernel_rfl) rfl
theorem eAg1 : ∀ args w, (callFunc 73 args).run Tryd.prog w = .ok (.enter 73 args) w := enters_of Tryd.func73 (by kernel_rfl) rfl
theorem eSt1 : ∀ args w, (callFunc 55 args).run Tryd.prog w = .ok (.enter 55 args) w := enters_of Tryd.func55 (by kernel_rfl) rfl
theorem strL_inj {a b : List UInt8} : strL a = strL b ↔ a = b := by
  unfold strL
  constructor
  · intro h
    have := congrArg (fun s => s.data.toList) h
    simpa using this
  · rintro rfl; rfl

set_option maxRecDepth 100000 in
set_option maxHeartbeats 2000000 in
theorem Ag1_any (x y : Wt) (B : Nat) (w : World) (h0 : w.cell? ⟨B, 0, none⟩ = some (.string (strL x.t))) (h1 : w.cell? ⟨B, 1, none⟩ = some (.bool x.wr)) :
    Calls Tryd.prog 73 #[.agg y.cells.toArray, .pointer (some ⟨B, 0, none⟩)] w fun e w' => e = .returned (.bool (hit x y)) ∧ Below w.heap.size w w' := by
  have hlt := World.block_lt_of_cell? _ _ h0
  obtain ⟨x0, x1⟩ := x
  obtain ⟨y0, y1⟩ := y
  simp only [Wt.cells, hit] at *
  by_cases ht : x0 = y0
  · subst ht
    cases x1 with
    | true =>
      go_enter Tryd.func73, Tryd.ntmps73
      go_wp2
      go_ret
      exact ⟨by simp, gr_alloc (Below.refl _ _) _⟩
    | false =>
      go_enter Tryd.func73, Tryd.ntmps73
      go_wp2
      go_ret
      exact ⟨by simp, gr_alloc (Below.refl _ _) _⟩
  · have hq : ((strL x0).toList == (strL y0).toList) = false := by
      rw [strL_toList, strL_toList]
      simpa using ht
    go_enter Tryd.func73, Tryd.ntmps73
    go_wp2
    go_ret
    exact ⟨by simp [ht], gr_alloc (Below.refl _ _) _⟩
set_option maxRecDepth 100000 in
set_option maxHeartbeats 2000000 in
theorem Ag2_any (x : Wt) (A : Option Addr) (n c : Nat) (ys : List Wt) (B : Nat) (w : World) (h0 : w.cell? ⟨B, 0, none⟩ = some (.slice A n c)) (hr : Rv w 2 A n c (wcells ys)) :
    Calls Tryd.prog 72 #[.agg x.cells.toArray, .pointer (some ⟨B, 0, none⟩)] w fun e w' => e = .returned (.bool (ys.any fun y => hit x y)) ∧ Below w.heap.size w w' := by
  have hlt := World.block_lt_of_cell? _ _ h0
  have hb : Below w.heap.size w (w.alloc (.cells x.cells.toArray 64)) := (Below.refl _ _).alloc (Nat.le_refl _) _
  have hc := Lib.hid (ContW_any (fun y => hit x y) _ #[.pointer (some ⟨w.heap.size, 0, none⟩)] eAg1 A n c ys _ (hr.below hb) (fun W y _ hW => by
    have hbk := hW.block w.heap.size (by simp)
    have e0 : (w.alloc (.cells x.cells.toArray 64)).heap[w.heap.size]? = some (.cells x.cells.toArray 64 (0, 0)) := World.alloc_heap_new w _
    rw [e0] at hbk
    have := Ag1_any x y w.heap.size W (by simp [World.cell?, hbk, Wt.cells]) (by simp [World.cell?, hbk, Wt.cells])
    exact this.mono fun e w' q => ⟨q.1, gr hW q.2⟩))
  obtain ⟨x0, x1⟩ := x
  simp only [Wt.cells] at hc hb ⊢
  clear hr
  go_enter Tryd.func72, Tryd.ntmps72
  go_wp2_with fail
  refine hc.out.mono ?_
  rintro e w1 ⟨rfl, hb1⟩
  clear hc
  go_wp2
  go_ret
  exact ⟨rfl, gr hb hb1⟩
set_option maxRecDepth 100000 in
set_option maxHeartbeats 2000000 in
theorem Ag_any (A : Option Addr) (n c : Nat) (xs : List Wt) (A2 : Option Addr) (m d : Nat) (ys : List Wt) (w : World) (hx : Rv w 2 A n c (wcells xs)) (hr : Rv w 2 A2 m d (wcells ys)) :
    Calls Tryd.prog 56 #[.agg #[.slice A n c], .agg #[.slice A2 m d]] w fun e w' => e = .returned (.bool (ag xs ys)) ∧ Below w.heap.size w w' := by
  have hb0 : Below w.heap.size w (w.alloc (.cells #[.slice A n c] 72)) := (Below.refl _ _).alloc (Nat.le_refl _) _
  have hb1 : Below (w.alloc (.cells #[.slice A n c] 72)).heap.size (w.alloc (.cells #[.slice A n c] 72)) ((w.alloc (.cells #[.slice A n c] 72)).alloc (.cells #[.slice A2 m d] 72)) := (Below.refl _ _).alloc (Nat.le_refl _) _
  have hb := gr hb0 hb1
  have e0 : ((w.alloc (.cells #[.slice A n c] 72)).alloc (.cells #[.slice A2 m d] 72)).cell? ⟨w.heap.size + 1, 0, none⟩ = some (.slice A2 m d) := by
    have := World.alloc_heap_new (w.alloc (.cells #[.slice A n c] 72)) (.cells #[.slice A2 m d] 72)
    rw [World.size_alloc] at this
    unfold World.cell?
    rw [this]
    rfl
  have hc := Lib.hid (ContW_any (fun x => ys.any fun y => hit x y) _ #[.pointer (some ⟨w.heap.size + 1, 0, none⟩)] eAg A n c xs _ (hx.below hb) (fun W x _ hW => by
    have := Ag2_any x A2 m d ys (w.heap.size + 1) W ((hW.cell (p := ⟨w.heap.size + 1, 0, none⟩) (by simp)).trans e0) ((hr.below hb).below hW)
    exact this.mono fun e w' q => ⟨q.1, gr hW q.2⟩))
  clear hr hx
  go_enter Tryd.func56, Tryd.ntmps56
  go_wp2_with fail
  refine hc.out.mono ?_
  rintro e w1 ⟨rfl, hb2⟩
  clear hc
  go_wp2
  go_ret
  exact ⟨rfl, gr hb hb2⟩
set_option maxRecDepth 100000 in
set_option maxHeartbeats 2000000 in
/-- The closure of settle: is the ask in the box against this one? -/
theorem St1_any (x : Ak) (A : Option Addr) (n c : Nat) (ys : List Wt) (B : Nat) (w : World) (h0 : w.cell? ⟨B, 0, none⟩ = some (.slice A n c)) (hr : Rv w 2 A n c (wcells ys)) (hx : Rv w 2 x.A x.n x.c (wcells x.W)) :
    Calls Tryd.prog 55 #[.agg x.cells.toArray, .pointer (some ⟨B, 0, none⟩)] w fun e w' => e = .returned (.bool (ag ys x.W)) ∧ Below w.heap.size w w' := by
  have hlt := World.block_lt_of_cell? _ _ h0
  have hb : Below w.heap.size w (w.alloc (.cells x.cells.toArray 74)) := (Below.refl _ _).alloc (Nat.le_refl _) _
  have hc := Lib.hid (Ag_any A n c ys x.A x.n x.c x.W _ (hr.below hb) (hx.below hb))
  obtain ⟨x0, x1, x2, x3, x4, x5, x6, x7, x8⟩ := x
  simp only [Ak.cells] at hc hb ⊢
  clear hr hx
  go_enter Tryd.func55, Tryd.ntmps55
  go_wp2_with fail
  refine hc.out.mono ?_
  rintro e w1 ⟨rfl, hb1⟩
  clear hc
  go_wp2
  go_ret
  exact ⟨rfl, gr hb hb1⟩

/-! ### which sessions, which wants may be -/
def thereK (s : Int) : Bool := decide (1 ≤ s ∧ s ≤ 16)
set_option maxRecDepth 100000 in
theorem There_any (s : Int) (w : World) : Calls Tryd.prog 34 #[.int .i64 s] w fun e w' => e = .returned (.bool (thereK s)) ∧ w = w' := by
  by_cases h1 : 1 ≤ s
  · have d1 : decide (1 ≤ s) = true := by simpa using h1
    go_enter Tryd.func34, Tryd.ntmps34
    go_wp2
    go_ret
    exact ⟨by simp [thereK, h1], rfl⟩
  · have d1 : decide (1 ≤ s) = false := by simpa using h1
    go_enter Tryd.func34, Tryd.ntmps34
    go_wp2
    go_ret
    exact ⟨by simp [thereK]; omega, rfl⟩
theorem eRt1 : ∀ args w, (callFunc 65 args).run Tryd.prog w = .ok (.enter 65 args) w := enters_of Tryd.func65 (by kernel_rfl) rfl
def sameT (x y : Wt) : Bool := decide (x.t = y.t)
set_option maxRecDepth 100000 in
theorem Rt1_any (x y : Wt) (B : Nat) (w : World) (h0 : w.cell? ⟨B, 0, none⟩ = some (.string (strL x.t))) :
    Calls Tryd.prog 65 #[.agg y.cells.toArray, .pointer (some ⟨B, 0, none⟩)] w fun e w' => e = .returned (.bool (sameT y x)) ∧ Below w.heap.size w w' := by
  have hlt := World.block_lt_of_cell? _ _ h0
  have hq : ((strL y.t).toList == (strL x.t).toList) = sameT y x := by
    rw [strL_toList, strL_toList, Bool.eq_iff_iff]
    simp [sameT]
  obtain ⟨x0, x1⟩ := x
  obtain ⟨y0, y1⟩ := y
  simp only [Wt.cells] at *
  go_enter Tryd.func65, Tryd.ntmps65
  go_wp2
  go_ret
  exact ⟨rfl, gr_alloc (Below.refl _ _) _⟩
/-- May wants be? -/
def okW : List Wt → List Wt → Bool
  | _, [] => true
  | pre, x :: r => decide (1 ≤ x.t.length ∧ x.t.length ≤ 24) && !(pre.any fun y => sameT y x) && okW (pre ++ [x]) r
def rightK (l : List Wt) : Bool := decide (1 ≤ l.length ∧ l.length ≤ 8) && okW [] l

/-! ### a piece of a slice -/
def cutK (A : Option Addr) (c lo k : Nat) : Option Addr := if c = lo then A else A.map (·.add (lo * k))
theorem run_slice_hiK {P : Program} (t e : TypeId) (k : Nat) (ht : P.underlying t = some (.slice e)) (i : TypeInfo) (hi : P.info? e = some i) (hc : P.cellsOf e = k) (A : Option Addr) (n c h : Nat) (hh : h ≤ c) (w : World) :
    (Instr.slice t (.slice A n c) none (some (.int .i64 (h : Int))) none).run P w = .ok (.slice (cutK A c 0 k) h c) w := by
  unfold Instr.slice Instr.sliceBounds Instr.sliceBound
  simp [Sem.run_bind, run_underlying ht, asIntOf, run_sizeOf w hi, hc, hh, cutK]
theorem cutK_zero (A : Option Addr) (c k : Nat) : cutK A c 0 k = A := by
  unfold cutK
  split
  · rfl
  · cases A <;> simp [Addr.add]
attribute [local go_sem] strL_size
theorem Rv.takeN {w : World} {k n c : Nat} {A : Option Addr} {xs : List Value} (h : Rv w k A n c xs) (i : Nat) (hi : i ≤ n) : Rv w k A i c (xs.take (i * k)) := by
  obtain ⟨h1, h2, h3, h4⟩ := h
  have hm : i * k ≤ n * k := Nat.mul_le_mul_right k hi
  refine ⟨by rw [List.length_take, h1]; omega, by omega, h3, fun hn => ?_⟩
  obtain ⟨b, off, hA, hb, hc⟩ := h4 (by omega)
  refine ⟨b, off, hA, hb, fun j u hu => hc j u ?_⟩
  rw [List.getElem?_take] at hu
  split at hu
  · exact hu
  · cases hu
theorem flat_take {α : Type} {f : α → List Value} {k : Nat} (hf : ∀ x, (f x).length = k) : ∀ (xs : List α) (i : Nat), (xs.take i).flatMap f = (xs.flatMap f).take (i * k)
  | [], i => by simp
  | x :: r, 0 => by simp
  | x :: r, i + 1 => by
    rw [List.take_succ_cons, List.flatMap_cons, List.flatMap_cons, flat_take hf r i, Nat.add_mul, Nat.one_mul, List.take_append, hf]
    rw [show i * k + k - k = i * k from by omega, List.take_of_length_le (i := i * k + k) (by rw [hf]; omega)]
theorem info_Wc : Tryd.prog.cellsOf 64 = 2 := by kernel_rfl
theorem info_Ac : Tryd.prog.cellsOf 74 = 6 := by kernel_rfl

set_option maxRecDepth 100000 in
set_option maxHeartbeats 2000000 in
theorem Right_any (A : Option Addr) (n c : Nat) (xs : List Wt) (w : World) (hr : Rv w 2 A n c (wcells xs)) :
    Calls Tryd.prog 50 #[.slice A n c] w fun e w' => e = .returned (.bool (rightK xs)) ∧ Below w.heap.size w w' := by
  have hxn : xs.length = n := by
    have := hr.1
    rw [wcells_length] at this
    omega
  have hcap : c ≤ 9223372036854775807 := hr.2.2.1
  have hle := hr.2.1
  obtain ⟨iS, hiS, hzS, hsS, hbS⟩ := info_parts info_W
  by_cases hn1 : n < 1
  · have d1 : decide ((n : Int) < 1) = true := by simp; omega
    have hN : rightK xs = false := by unfold rightK; rw [hxn]; simp; omega
    replace hN := Lib.hid hN
    go_enter Tryd.func50, Tryd.ntmps50
    go_wp2
    go_ret
    exact ⟨by rw [hN.out]; rfl, Below.refl _ _⟩
  have d1 : decide ((n : Int) < 1) = false := by simp; omega
  by_cases hn8 : 8 < n
  · have d2 : decide (8 < (n : Int)) = true := by simp; omega
    have hN : rightK xs = false := by unfold rightK; rw [hxn]; simp; omega
    replace hN := Lib.hid hN
    go_enter Tryd.func50, Tryd.ntmps50
    go_wp2
    go_ret
    exact ⟨by rw [hN.out]; rfl, Below.refl _ _⟩
  have d2 : decide (8 < (n : Int)) = false := by simp; omega
  have hR : rightK xs = okW [] xs := by
    unfold rightK
    rw [hxn]
    have : decide (1 ≤ n ∧ n ≤ 8) = true := by simp; omega
    rw [this, Bool.true_and]
  rw [hR]
  clear hR
  go_enter Tryd.func50, Tryd.ntmps50
  go_wp2
  go_loopw [15] (fun q wr => ∃ i : Nat, q = .int .i64 (i : Int) ∧ i ≤ n ∧ okW [] xs = okW (xs.take i) (xs.drop i) ∧ Below w.heap.size w wr)
    (fun q wr => n - (intOf q).toNat)
  case atStart => exact ⟨0, rfl, by omega, by simp, Below.refl _ _⟩
  case round =>
    obtain ⟨i, rfl, hi, h0, hbw⟩ := hrel
    clear d1 d2
    by_cases hlt : i < n
    · obtain ⟨b1, o1, rfl, hb1, hc1⟩ := hr.2.2.2 (by omega)
      have e1 := wcells_cell hc1 (fun o => hbw.cell (p := ⟨b1, o, none⟩) hb1) i (by omega)
      have htk : xs.take (i + 1) = xs.take i ++ [xs[i]'(by omega)] := List.take_succ_eq_append_getElem (by omega)
      have hdr : xs.drop i = xs[i]'(by omega) :: xs.drop (i + 1) := List.drop_eq_getElem_cons (by omega)
      have hlt1 : (i : Int) < (n : Int) := by omega
      have hlt2 : decide ((i : Int) < (n : Int)) = true := by simp; omega
      have hrp : Rv w 2 (some ⟨b1, o1, none⟩) i c (wcells (xs.take i)) := by
        have := hr.takeN i (by omega)
        unfold wcells at *
        rw [flat_take (f := Wt.cells) (k := 2) (fun _ => rfl)]
        exact this
      rw [hdr, okW, ← htk] at h0
      clear hdr htk
      generalize hx : xs[i]'(by omega) = x at *
      have hba : Below wr.heap.size wr (wr.alloc (.cells x.cells.toArray 64)) := (Below.refl _ wr).alloc (Nat.le_refl _) _
      have hcall := Lib.hid (ContW_any (fun y => sameT y x) _ #[.pointer (some ⟨wr.heap.size, 0, none⟩)] eRt1 (some ⟨b1, o1, none⟩) i c (xs.take i) _ ((hrp.below hbw).below hba) (fun W y _ hW => by
        have hbk := hW.block wr.heap.size (by simp)
        have e0 : (wr.alloc (.cells x.cells.toArray 64)).heap[wr.heap.size]? = some (.cells x.cells.toArray 64 (0, 0)) := World.alloc_heap_new wr _
        rw [e0] at hbk
        have := Rt1_any x y wr.heap.size W (by simp [World.cell?, hbk, Wt.cells])
        exact this.mono fun e w' q => ⟨q.1, gr hW q.2⟩))
      have SA := fun w' => run_slice_hiK (P := Tryd.prog) 29 64 2 Tryd.underlying29 iS hiS info_Wc (some ⟨b1, o1, none⟩) n c i (by omega) w'
      rw [cutK_zero] at SA
      obtain ⟨x0, x1⟩ := x
      simp only [Wt.cells] at e1 hcall h0 hba
      clear hc1 hx hrp
      by_cases s1 : 1 ≤ x0.length
      · have q1 : decide ((x0.length : Int) < 1) = false := by simp; omega
        by_cases s2 : x0.length ≤ 24
        · have q2 : decide (24 < (x0.length : Int)) = false := by simp; omega
          have q3 : decide (1 ≤ x0.length ∧ x0.length ≤ 24) = true := by simp; omega
          rw [q3, Bool.true_and] at h0
          clear s1 s2 q3
          go_wp2_with fail
          refine hcall.out.mono ?_
          rintro e w1 ⟨rfl, hb1'⟩
          clear hcall SA e1
          generalize hq : (List.take i xs).any _ = q at *
          have hb2 := gr (gr hbw hba) hb1'
          cases q with
          | true =>
            have hN : okW [] xs = false := by rw [h0]; rfl
            clear h0 hq
            replace hN := Lib.hid hN
            go_wp2
            go_ret
            exact ⟨by rw [hN.out]; rfl, hb2⟩
          | false =>
            have hN : okW [] xs = okW (xs.take (i + 1)) (xs.drop (i + 1)) := by rw [h0]; rfl
            clear h0 hq
            replace hN := Lib.hid hN
            go_wp2
            exact ⟨⟨i + 1, by simp, by omega, hN.out, hb2⟩, by simp [intOf]; omega⟩
        · have q2 : decide (24 < (x0.length : Int)) = true := by simp; omega
          have hN : okW [] xs = false := by rw [h0]; simp; omega
          clear h0 hcall
          replace hN := Lib.hid hN
          go_wp2
          go_ret
          exact ⟨by rw [hN.out]; rfl, gr hbw hba⟩
      · have q1 : decide ((x0.length : Int) < 1) = true := by simp; omega
        have hN : okW [] xs = false := by rw [h0]; simp; omega
        clear h0 hcall
        replace hN := Lib.hid hN
        go_wp2
        go_ret
        exact ⟨by rw [hN.out]; rfl, gr hbw hba⟩
    · obtain rfl : i = n := by omega
      have hlt2 : decide ((i : Int) < (i : Int)) = false := by simp
      have hN : okW [] xs = true := by rw [h0, List.drop_of_length_le (by omega)]; rfl
      clear h0
      replace hN := Lib.hid hN
      go_wp2
      go_ret
      exact ⟨by rw [hN.out]; rfl, hbw⟩
end Go.Proofs.YtnjhhibjcfjhnaaDoor
