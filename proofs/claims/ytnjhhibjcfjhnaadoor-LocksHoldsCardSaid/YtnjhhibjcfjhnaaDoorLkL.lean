/- Locks: DeleteFunc with the closure of Tick. -/
import Derived.Test.YtnjhhibjcfjhnaaDoorLkK
namespace Go.Proofs.YtnjhhibjcfjhnaaDoor
open Go.RowKit
set_option linter.unusedVariables false

def hsK (now : Int) (l : List Ak) : List Int := (l.filter (lateK now)).map (·.s)
def stayK (now : Int) (l : List Ak) : List Ak := l.filter fun x => !(lateK now x)
theorem eTick1 : ∀ args w, (callFunc 38 args).run Tryd.prog w = .ok (.enter 38 args) w := enters_of Tryd.func38 (by kernel_rfl) rfl
theorem hsK_len (now : Int) (l : List Ak) : (hsK now l).length ≤ l.length := by
  unfold hsK
  rw [List.length_map]
  exact List.length_filter_le _ _
theorem hsK_snoc (now : Int) (l : List Ak) (x : Ak) : hsK now (l ++ [x]) = if lateK now x then hsK now l ++ [x.s] else hsK now l := by
  unfold hsK
  rw [List.filter_append, List.map_append]
  cases h : lateK now x <;> simp [h]
theorem stayK_snoc (now : Int) (l : List Ak) (x : Ak) : stayK now (l ++ [x]) = if lateK now x then stayK now l else stayK now l ++ [x] := by
  unfold stayK
  rw [List.filter_append]
  cases h : lateK now x <;> simp [h]
theorem hsK_none {now : Int} {l : List Ak} (h : ∀ x ∈ l, lateK now x = false) : hsK now l = [] := by
  unfold hsK
  rw [List.filter_eq_nil_iff.2 (fun x hx => by rw [h x hx]; decide)]
  rfl
theorem stayK_none {now : Int} {l : List Ak} (h : ∀ x ∈ l, lateK now x = false) : stayK now l = l := by
  unfold stayK
  exact List.filter_eq_self.2 fun x hx => by rw [h x hx]; rfl

set_option maxRecDepth 100000 in
set_option maxHeartbeats 4000000 in
/-- IndexFunc with that closure. -/
theorem IdxT_any {w0 W : World} {H B Bl Bo : Nat} (now : Int) {A : Option Addr} {n c : Nat} {xs : List Ak} (hT : TJ w0 W H B Bl Bo []) (hH : H ≤ W.heap.size) (hBH : B < H) (hnow : w0.cell? ⟨B, 0, none⟩ = some (.int .i64 now)) (hO : Ov W H 74 6 A n c (acells xs)) (hw : ∀ x ∈ xs, x.Wf) (h0 : 0 ≤ now) (h1 : now ≤ 1000000) (hn : n < 20) :
    Calls Tryd.prog 57 #[.slice A n c, .func (.func 38) #[] #[.pointer (some ⟨Bl, 0, none⟩), .pointer (some ⟨Bo, 0, none⟩)]] W fun e w' => H ≤ w'.heap.size ∧ Ov w' H 74 6 A n c (acells xs) ∧
      ((e = .returned (.int .i64 (-1)) ∧ (∀ x ∈ xs, lateK now x = false) ∧ TJ w0 w' H B Bl Bo []) ∨
       ∃ (i : Nat) (hi : i < xs.length), e = .returned (.int .i64 (i : Int)) ∧ (∀ x ∈ xs.take i, lateK now x = false) ∧ lateK now xs[i] = true ∧ TJ w0 w' H B Bl Bo [xs[i].s]) := by
  have hxn : xs.length = n := by
    have := hO.1
    rw [acells_length] at this
    omega
  have hcap : c ≤ 9223372036854775807 := hO.rv.2.2.1
  have hle := hO.rv.2.1
  have eg := eTick1
  go_enter Tryd.func57, Tryd.ntmps57
  go_wp2
  go_loopw [8] (fun q wr => ∃ i : Nat, q = .int .i64 (i : Int) ∧ i ≤ n ∧ (∀ x ∈ xs.take i, lateK now x = false) ∧ H ≤ wr.heap.size ∧ Ov wr H 74 6 A n c (acells xs) ∧ TJ w0 wr H B Bl Bo [])
    (fun q wr => n - (intOf q).toNat)
  case atStart => exact ⟨0, rfl, by omega, by simp, hH, hO, hT⟩
  case round =>
    clear hH hO hT
    obtain ⟨i, rfl, hi, h0', hH, hO, hT⟩ := hrel
    by_cases hlt : i < n
    · obtain ⟨b1, o1, rfl, hb1, hc1⟩ := hO.rv.2.2.2 (by omega)
      have e1 := acells_cell hc1 (fun o => rfl) i (by omega)
      have htk : xs.take (i + 1) = xs.take i ++ [xs[i]'(by omega)] := List.take_succ_eq_append_getElem (by omega)
      have hcall := Tick1_any (xs[i]'(by omega)) now hT hH ((hT.bel.cell (p := ⟨B, 0, none⟩) hBH).trans hnow) (hw _ (List.getElem_mem _)) h0 h1 (by simp)
      have hlt1 : (i : Int) < (n : Int) := by omega
      have hlt2 : decide ((i : Int) < (n : Int)) = true := by simp; omega
      generalize hy : xs[i]'(by omega) = x at *
      have hx9 := Lib.hid (show ∃ h : i < xs.length, xs[i] = x from ⟨by omega, hy⟩)
      obtain ⟨x0, x1, x2, x3, x4, x5, x6, x7, x8⟩ := x
      simp only [Ak.cells] at e1 hcall
      replace hcall := Lib.hid hcall
      replace htk := Lib.hid htk
      clear hy hc1 hT
      go_wp2_with fail
      refine hcall.out.mono ?_
      rintro e w1 ⟨rfl, hT1, hrow, hsz⟩
      have hO1 := hrow _ _ _ _ hO
      clear hcall e1 hrow hO
      generalize hq : lateK now _ = q at *
      cases q with
      | true =>
        simp only [if_true, List.nil_append] at hT1
        have hz : H ≤ w1.heap.size := by omega
        replace hT1 := Lib.hid hT1
        replace hO1 := Lib.hid hO1
        replace hq := Lib.hid hq
        go_wp2
        go_ret
        obtain ⟨hil, hix⟩ := hx9.out
        exact ⟨hz, hO1.out, .inr ⟨i, hil, rfl, h0', by rw [hix]; exact hq.out, by rw [hix]; exact hT1.out⟩⟩
      | false =>
        simp only [Bool.false_eq_true, if_false] at hT1
        have hz : H ≤ w1.heap.size := by omega
        have hN : ∀ x ∈ xs.take (i + 1), lateK now x = false := by
          rw [htk.out]
          intro x hx
          rcases List.mem_append.1 hx with hx | hx
          · exact h0' x hx
          · rw [List.mem_singleton.1 hx]; exact hq
        clear hq htk
        replace hN := Lib.hid hN
        replace hT1 := Lib.hid hT1
        replace hO1 := Lib.hid hO1
        go_wp2
        exact ⟨⟨i + 1, by simp, by omega, hN.out, hz, hO1.out, hT1.out⟩, by simp [intOf]; omega⟩
    · obtain rfl : i = n := by omega
      have hN : ∀ x ∈ xs, lateK now x = false := by
        rw [List.take_of_length_le (by omega)] at h0'
        exact h0'
      have hlt2 : decide ((i : Int) < (i : Int)) = false := by simp
      replace hN := Lib.hid hN
      go_wp2
      go_ret
      exact ⟨hH, hO, .inl ⟨rfl, hN.out, hT⟩⟩
theorem acells_cons (x : Ak) (r : List Ak) : acells (x :: r) = x.cells ++ acells r := by simp [acells]
theorem setL_mid (kept r : List Ak) (y v : Ak) : setL (acells (kept ++ y :: r)) (kept.length * 6) v.cells = acells (kept ++ v :: r) := by
  have h6 : v.cells.length = 6 := rfl
  have h6' : y.cells.length = 6 := rfl
  have hl := acells_length kept
  rw [acells_app, acells_app, acells_cons, acells_cons, setL_eq _ _ _ (by simp [h6, h6', hl]), h6]
  rw [List.take_append_of_le_length (by omega), List.take_of_length_le (by omega), ← hl, List.drop_append, List.drop_of_length_le (by omega), List.nil_append, Nat.add_sub_cancel_left]
  rw [List.drop_append_of_le_length (by rw [h6']; exact Nat.le_refl _), List.drop_of_length_le (by rw [h6']; exact Nat.le_refl _)]
  simp

theorem Ov.acell {w : World} {base g n c : Nat} {zs : List Ak} (h : Ov w base 74 6 (some ⟨g, 0, none⟩) n c (acells zs)) {j : Nat} {x : Ak} (hx : zs[j]? = some x) :
    w.cell? ⟨g, j * 6, none⟩ = some (.slice x.A x.n x.c) ∧ w.cell? ⟨g, j * 6 + 1, none⟩ = some (.int .i64 x.s) ∧ w.cell? ⟨g, j * 6 + 2, none⟩ = some (.int .i64 x.since) ∧
      w.cell? ⟨g, j * 6 + 3, none⟩ = some (.int .i64 x.wait) ∧ w.cell? ⟨g, j * 6 + 4, none⟩ = some (.bool x.first) ∧ w.cell? ⟨g, j * 6 + 5, none⟩ = some (.bool x.held) := by
  obtain ⟨hj, hx⟩ := List.getElem?_eq_some_iff.1 hx
  have hl := h.1
  rw [acells_length] at hl
  obtain ⟨b1, o1, hA, hgl, hc⟩ := h.rv.2.2.2 (by omega)
  injection hA with hA
  injection hA with hA1' hA2'
  subst hA1' hA2'
  have h1 := acells_cell hc (fun _ => rfl) j hj
  rw [hx] at h1
  simpa only [Nat.zero_add] using h1
set_option maxRecDepth 100000 in
set_option maxHeartbeats 8000000 in
/-- DeleteFunc with that closure. -/
theorem DelT_any {w0 W : World} {H B Bl Bo : Nat} (now : Int) {A : Option Addr} {n c : Nat} {xs : List Ak} (hT : TJ w0 W H B Bl Bo []) (hH : H ≤ W.heap.size) (hBH : B < H) (hnow : w0.cell? ⟨B, 0, none⟩ = some (.int .i64 now)) (hO : Ov W H 74 6 A n c (acells xs)) (hw : ∀ x ∈ xs, x.Wf) (h0 : 0 ≤ now) (h1 : now ≤ 1000000) (hn : n < 20) :
    Calls Tryd.prog 37 #[.slice A n c, .func (.func 38) #[] #[.pointer (some ⟨Bl, 0, none⟩), .pointer (some ⟨Bo, 0, none⟩)]] W fun e w' => H ≤ w'.heap.size ∧
      e = .returned (.slice A (stayK now xs).length c) ∧ Ov w' H 74 6 A (stayK now xs).length c (acells (stayK now xs)) ∧ TJ w0 w' H B Bl Bo (hsK now xs) := by
  have hxn : xs.length = n := by
    have := hO.1
    rw [acells_length] at this
    omega
  have hcap : c ≤ 9223372036854775807 := hO.rv.2.2.1
  have hle := hO.rv.2.1
  have hix := Lib.hid (IdxT_any now hT hH hBH hnow hO hw h0 h1 hn)
  obtain ⟨iA, hiA, hzA, hsA, hbA⟩ := info_parts info_A
  clear hO hT hH
  have eg := eTick1
  go_enter Tryd.func37, Tryd.ntmps37
  go_wp2_with fail
  refine hix.out.mono ?_
  rintro e w1 ⟨hH, hO, h⟩
  clear hix
  rcases h with ⟨rfl, hno, hT⟩ | ⟨i, hi, rfl, hno, hyes, hT⟩
  · have e1 := stayK_none hno
    have e2 := hsK_none hno
    rw [← e2] at hT
    replace hno := Lib.hid hno
    replace hT := Lib.hid hT
    replace hO := Lib.hid hO
    clear e2
    go_wp2
    go_ret
    rw [e1, hxn]
    exact ⟨hH, rfl, hO.out, hT.out⟩
  · have hm1 : ((i : Int) == -1) = false := beq_false_of_ne (by omega)
    have hwr : IntKind.i64.wrap ((i : Int) + 1) = (i : Int) + 1 := by rw [IntKind.wrap_i64]; omega
    rcases hO.first with ⟨_, hz, _⟩ | ⟨g, rfl⟩
    · omega
    have hg : H ≤ g := (hO.ab g rfl).1
    have hsplit : xs.take i ++ (xs[i] :: xs.drop (i + 1)) = xs := by rw [← List.drop_eq_getElem_cons hi, List.take_append_drop]
    have hst : stayK now (xs.take (i + 1)) = xs.take i := by rw [List.take_succ_eq_append_getElem hi, stayK_snoc, hyes, if_pos rfl, stayK_none hno]
    have hhs : hsK now (xs.take (i + 1)) = [xs[i].s] := by rw [List.take_succ_eq_append_getElem hi, hsK_snoc, hyes, if_pos rfl, hsK_none hno]; rfl
    rw [← hhs] at hT
    go_wp2
    go_loopw [5, 6] (fun q p wr => ∃ (kept junk rest : List Ak) (j : Nat), q = .int .i64 (kept.length : Int) ∧ p = .int .i64 (j : Int) ∧ j ≤ n ∧ kept.length + junk.length = j ∧ 0 < junk.length ∧ kept = stayK now (xs.take j) ∧ rest = xs.drop j ∧ H ≤ wr.heap.size ∧
        Ov wr H 74 6 (some ⟨g, 0, none⟩) n c (acells (kept ++ (junk ++ rest))) ∧ TJ w0 wr H B Bl Bo (hsK now (xs.take j)))
      (fun q p wr => n - (intOf p).toNat)
    case atStart => exact ⟨xs.take i, [xs[i]], xs.drop (i + 1), i + 1, by simp; omega, by simp, by omega, by simp; omega, by simp, hst.symm, rfl, hH, by simpa [hsplit] using hO, hT⟩
    case round =>
      clear hO hT hH hst hhs hsplit hm1 hwr hyes hno
      obtain ⟨kept, junk, rest, j, rfl, rfl, hj, hkj, hjk, hkept, hrest, hH, hO, hT⟩ := hrel
      by_cases hlt : j < n
      · have hlt1 : (j : Int) < (n : Int) := by omega
        have hlt2 : decide ((j : Int) < (n : Int)) = true := by simp; omega
        have hdr : xs.drop j = xs[j]'(by omega) :: xs.drop (j + 1) := List.drop_eq_getElem_cons (by omega)
        have htk : xs.take (j + 1) = xs.take j ++ [xs[j]'(by omega)] := List.take_succ_eq_append_getElem (by omega)
        have hwf := hw (xs[j]'(by omega)) (List.getElem_mem _)
        rw [hdr] at hrest
        generalize xs[j]'(by omega) = x at *
        subst hrest
        have hrl : (xs.drop (j + 1)).length = n - (j + 1) := by rw [List.length_drop, hxn]
        generalize hrd : xs.drop (j + 1) = rest at *
        obtain ⟨y, junk, rfl⟩ : ∃ y l, junk = y :: l := by
          cases junk with
          | nil => simp at hjk
          | cons y l => exact ⟨y, l, rfl⟩
        simp only [List.length_cons] at hkj
        have e1 := hO.acell (j := j) (x := x) (by
          rw [← List.append_assoc, List.getElem?_append_right (by simp; omega)]
          rw [show j - (kept ++ y :: junk).length = 0 by simp; omega]
          rfl)
        have hba : Below wr.heap.size wr (wr.alloc (.cells x.cells.toArray 74)) := (Below.refl _ _).alloc (Nat.le_refl _) _
        have hTa := hT.more hba hH
        have hOa := hO.below hba
        have hHa : H ≤ (wr.alloc (.cells x.cells.toArray 74)).heap.size := by simp; omega
        have hXa : Ov (wr.alloc (.cells x.cells.toArray 74)) H 74 6 (some ⟨wr.heap.size, 0, none⟩) 1 1 x.cells := World.ownsRow_lit (base := H) (e := 74) (size := 6) wr x.cells.toArray 1 hH (by simp [maxLen]) rfl
        have hcall := Tick1_any x now hTa hHa ((hTa.bel.cell (p := ⟨B, 0, none⟩) hBH).trans hnow) hwf h0 h1 (by have := hsK_len now (xs.take j); rw [List.length_take] at this; omega)
        have hka := (KA.new wr x).cells
        have hhs := hsK_snoc now (xs.take j) x
        have hstj := stayK_snoc now (xs.take j) x
        rw [← htk] at hhs hstj
        rw [← hkept] at hstj
        clear hkept
        rw [← hhs] at hcall
        clear hT hO hH hba hTa hhs htk hdr hwf
        obtain ⟨x0, x1, x2, x3, x4, x5, x6, x7, x8⟩ := x
        simp only [Ak.cells, KAc] at e1 hOa hHa hXa hcall hka
        replace hcall := Lib.hid hcall
        replace hOa := Lib.hid hOa
        replace hXa := Lib.hid hXa
        go_wp2_with fail
        refine hcall.out.mono ?_
        rintro e w2 ⟨rfl, hT2, hrow, hsz⟩
        have hO2 := hrow _ _ _ _ hOa.out
        have hX2 := hrow _ _ _ _ hXa.out
        have hH2 : H ≤ w2.heap.size := by omega
        clear hcall hrow hOa hXa e1 hka hsz hHa
        cases hq : lateK now ⟨x0, x1, x2, x3, x4, x5, x6, x7, x8⟩ with
        | true =>
          rw [hq, if_pos rfl] at hstj
          have hO3 : Ov w2 H 74 6 (some ⟨g, 0, none⟩) n c (acells (kept ++ ((y :: (junk ++ [⟨x0, x1, x2, x3, x4, x5, x6, x7, x8⟩])) ++ rest))) := by simpa using hO2
          replace hT2 := Lib.hid hT2
          replace hO3 := Lib.hid hO3
          replace hstj := Lib.hid hstj
          clear hO2 hX2 hq
          go_wp2
          refine ⟨⟨kept, y :: (junk ++ [⟨x0, x1, x2, x3, x4, x5, x6, x7, x8⟩]), rest, j + 1, rfl, by simp, by omega, by simp; omega, by simp, hstj.out.symm, hrd.symm, hH2, hO3.out, hT2.out⟩, by simp [intOf]; omega⟩
        | false =>
          rw [hq, if_neg (by decide)] at hstj
          have hXc := fun t ht => World.ownsRow.cellAt hX2 t ht
          have x0c : w2.cell? ⟨wr.heap.size, 0, none⟩ = some (.slice x6 x7 x8) := hXc 0 (by decide)
          have x1c : w2.cell? ⟨wr.heap.size, 1, none⟩ = some (.int .i64 x0) := hXc 1 (by decide)
          have x2c : w2.cell? ⟨wr.heap.size, 2, none⟩ = some (.int .i64 x1) := hXc 2 (by decide)
          have x3c : w2.cell? ⟨wr.heap.size, 3, none⟩ = some (.int .i64 x2) := hXc 3 (by decide)
          have x4c : w2.cell? ⟨wr.heap.size, 4, none⟩ = some (.bool x3) := hXc 4 (by decide)
          have x5c : w2.cell? ⟨wr.heap.size, 5, none⟩ = some (.bool x4) := hXc 5 (by decide)
          have ey := hO2.acell (j := kept.length) (x := y) (by simp)
          have f0 := World.ownsRow.frozenAt hO2 (kept.length * 6)
          have f1 := World.ownsRow.frozenAt hO2 (kept.length * 6 + 1)
          have f2 := World.ownsRow.frozenAt hO2 (kept.length * 6 + 2)
          have f3 := World.ownsRow.frozenAt hO2 (kept.length * 6 + 3)
          have f4 := World.ownsRow.frozenAt hO2 (kept.length * 6 + 4)
          have f5 := World.ownsRow.frozenAt hO2 (kept.length * 6 + 5)
          have hlk : (kept.length : Int) < (n : Int) := by omega
          obtain ⟨cs, hcs⟩ := hO2.block g rfl
          obtain ⟨hO3, hg3⟩ := Ov.setCells (Ak.cells ⟨x0, x1, x2, x3, x4, x5, x6, x7, x8⟩) (kept.length * 6) hO2
          rw [show kept ++ (y :: junk ++ (⟨x0, x1, x2, x3, x4, x5, x6, x7, x8⟩ : Ak) :: rest) = kept ++ y :: (junk ++ (⟨x0, x1, x2, x3, x4, x5, x6, x7, x8⟩ : Ak) :: rest) from rfl, setL_mid] at hO3
          have hT3 := hT2.row hg3 hcs hg hH2
          have hO4 : Ov (w2.setCells g (kept.length * 6) (Ak.cells ⟨x0, x1, x2, x3, x4, x5, x6, x7, x8⟩)) H 74 6 (some ⟨g, 0, none⟩) n c (acells ((kept ++ [⟨x0, x1, x2, x3, x4, x5, x6, x7, x8⟩]) ++ ((junk ++ [⟨x0, x1, x2, x3, x4, x5, x6, x7, x8⟩]) ++ rest))) := by simpa using hO3
          have hH4 : H ≤ (w2.setCells g (kept.length * 6) (Ak.cells ⟨x0, x1, x2, x3, x4, x5, x6, x7, x8⟩)).heap.size := Nat.le_trans hH2 hg3.size
          replace hT3 := Lib.hid hT3
          replace hO4 := Lib.hid hO4
          replace hstj := Lib.hid hstj
          replace hH4 := Lib.hid hH4
          have hwk : IntKind.i64.wrap ((kept.length : Int) + 1) = (kept.length : Int) + 1 := by rw [IntKind.wrap_i64]; omega
          have hwj : IntKind.i64.wrap ((j : Int) + 1) = (j : Int) + 1 := by rw [IntKind.wrap_i64]; omega
          clear hO2 hX2 hq hXc hO3 hT2 hg3 hcs
          go_wp2_with fail
          refine ⟨⟨kept ++ [Ak.mk x0 x1 x2 x3 x4 x5 x6 x7 x8], junk ++ [Ak.mk x0 x1 x2 x3 x4 x5 x6 x7 x8], rest, j + 1, by simp, by simp, by omega, by simp; omega, by simp, hstj.out.symm, hrd.symm, hH4.out, hO4.out, hT3.out⟩, by simp [intOf]; omega⟩
      · obtain rfl : j = n := by omega
        have hlt2 : decide ((j : Int) < (j : Int)) = false := by simp
        rw [List.drop_of_length_le (by omega)] at hrest
        subst hrest
        rw [List.take_of_length_le (by omega)] at hkept hT
        rw [List.append_nil] at hO
        have SB := fun w' => run_slice_loK (P := Tryd.prog) 67 74 6 Tryd.underlying67 iA hiA info_Ac (some ⟨g, 0, none⟩) j c kept.length (by omega) hle w'
        have SA := fun w' => run_slice_hiK (P := Tryd.prog) 67 74 6 Tryd.underlying67 iA hiA info_Ac (some ⟨g, 0, none⟩) j c kept.length (by omega) w'
        rw [cutK_zero] at SA
        have hcD : cutK (some ⟨g, 0, none⟩) c kept.length 6 = some ⟨g, kept.length * 6, none⟩ := by
          unfold cutK
          rw [if_neg (by omega), Option.map_some, Addr.add_lit, Nat.zero_add]
        rw [hcD] at SB
        have hcl := fun ty => run_clear_A (o := kept.length * 6) (m := j - kept.length) (d := c - kept.length) hO (by omega) (by omega) ty
        obtain ⟨cs, hcs⟩ := hO.block g rfl
        have hO2 := hO.takeN kept.length (by omega) (by simp)
        rw [← acells_take, List.take_append_of_le_length (Nat.le_refl _), List.take_of_length_le (Nat.le_refl _)] at hO2
        obtain ⟨hO3, hg3⟩ := Ov.setCells (Builtin.zeroCells zeroA.cells (j - kept.length)).toList (kept.length * 6) hO2
        rw [setL_ge _ _ _ (by rw [acells_length]; exact Nat.le_refl _)] at hO3
        have hT3 := hT.row hg3 hcs hg hH
        have hH3 := Nat.le_trans hH hg3.size
        replace hkept := Lib.hid hkept
        replace hT3 := Lib.hid hT3
        replace hO3 := Lib.hid hO3
        generalize (wr.setCells g (kept.length * 6) (Builtin.zeroCells zeroA.cells (j - kept.length)).toList) = w3 at *
        clear hO hO2 hT hg3 hcs hcD
        go_wp2
        go_ret
        rw [← hkept.out]
        exact ⟨hH3, rfl, hO3.out, hT3.out⟩
end Go.Proofs.YtnjhhibjcfjhnaaDoor
