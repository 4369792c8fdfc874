/- value.Row: the texts of several values. -/
import Derived.Test.YtcicmeggbkhniaaGreatDoorTextB
import Derived.Test.YtcicmeggbkhniaaGreatDoorRefV
import Derived.Lib.ItoaLen
namespace Go.Proofs.YtcicmeggbkhniaaGreatDoor
open Go.RowKit
set_option linter.unusedVariables false

/-- A row of new cells. -/
theorem Rv.new1 (w : World) (t : TypeId) (xs : List Value) (h : xs.length ≤ maxLen) : Rv (w.alloc (.cells xs.toArray t)) 1 (some ⟨w.heap.size, 0, none⟩) xs.length xs.length xs :=
  ⟨by simp, Nat.le_refl _, h, fun _ => ⟨w.heap.size, 0, rfl, by simp, fun j u hu => by
    rw [World.cell?, World.alloc_heap_new]
    simpa using hu⟩⟩
/-- A value's text as a cell. -/
def tcell (x : Vl) : Value := .string (strL (textV x))
/-- What Row tells. -/
def rowV (xs : List Vl) : List UInt8 × Nat := match xs.find? (fun x => x.chk ≠ 0) with
  | some x => ([], x.chk)
  | none => (Lib.join (xs.map textV) [44, 32], 0)

theorem textV_length {x : Vl} (hw : x.Wf) (h : x.chk = 0) : (textV x).length ≤ 500 := by
  rcases chk_ways h with rfl | ⟨i, rfl⟩ | ⟨u, rfl⟩ | rfl | rfl | ⟨s, rfl, hs⟩
  · decide
  · have := Lib.itoa_length_le i hw.i0 hw.i1
    show (Lib.itoa i).length ≤ 500
    omega
  · have hu0 := hw.u0
    have hu1 := hw.u1
    simp only at hu0 hu1
    have : (Lib.itoa (u.toNat : Int)).length = (Lib.decDigits u.toNat).length := by rw [Lib.itoa_nonneg]
    show (Lib.decDigits u.toNat ++ [117]).length ≤ 500
    rw [List.length_append, Lib.decDigits_length]
    by_cases h0 : u.toNat = 0
    · rw [h0, Lib.nDigits_small (by omega)]
      simp
    · have := Lib.numDigits_eq u.toNat (by omega) (by omega)
      simp
      split at this <;> omega
  · decide
  · decide
  · show (120 :: 39 :: (hexL s ++ [39])).length ≤ 500
    simp [hexL_length]
    omega
theorem joinTail_length (sep : List UInt8) : ∀ (r : List (List UInt8)), (∀ t ∈ r, t.length ≤ 500) → (Lib.joinTail sep r).length ≤ r.length * (500 + sep.length)
  | [], _ => by simp [Lib.joinTail]
  | t :: r, h => by
    have h1 := h t (by simp)
    have h2 := joinTail_length sep r (fun t ht => h t (by simp [ht]))
    have e : Lib.joinTail sep (t :: r) = (sep ++ t) ++ Lib.joinTail sep r := by simp [Lib.joinTail]
    rw [e, List.length_append, List.length_append, List.length_cons, Nat.succ_mul]
    omega
theorem join_length (sep : List UInt8) (r : List (List UInt8)) (h : ∀ t ∈ r, t.length ≤ 500) : (Lib.join r sep).length ≤ 500 + r.length * (500 + sep.length) := by
  cases r with
  | nil => simp [Lib.join_nil]
  | cons t r =>
    rw [Lib.join_cons, List.length_append]
    have h1 := h t (by simp)
    have h2 := joinTail_length sep r (fun t ht => h t (by simp [ht]))
    rw [List.length_cons, Nat.succ_mul]
    omega

theorem info_str : (Tryz.prog.info? 9).map (fun i => (i.zero, i.size, i.bytes)) = some (some (.string ByteArray.empty), 1, 16) := by kernel_rfl

/-- A value that is found not to be. -/
theorem find_bad {xs : List Vl} {k : Nat} (hk : k < xs.length) (h0 : ∀ x ∈ xs.take k, x.chk = 0) (hb : xs[k].chk ≠ 0) : rowV xs = ([], xs[k].chk) := by
  have : xs.find? (fun x => x.chk ≠ 0) = some xs[k] := by
    rw [List.find?_eq_some_iff_getElem]
    refine ⟨by simpa using hb, k, hk, rfl, fun j hj => ?_⟩
    have := h0 xs[j] (by rw [List.mem_take_iff_getElem]; exact ⟨j, by omega, rfl⟩)
    simpa using this
  unfold rowV
  rw [this]
theorem find_none {xs : List Vl} (h0 : ∀ x ∈ xs, x.chk = 0) : rowV xs = (Lib.join (xs.map textV) [44, 32], 0) := by
  have : xs.find? (fun x => x.chk ≠ 0) = none := by
    rw [List.find?_eq_none]
    intro x hx
    simpa using h0 x hx
  unfold rowV
  rw [this]

attribute [local go_sem] strL_size
set_option maxRecDepth 100000 in
set_option maxHeartbeats 2000000 in
theorem Row_any (A : Option Addr) (n c : Nat) (xs : List Vl) (w : World) (hE : Env w) (hr : Rv w 4 A n c (vcells xs)) (hw : ∀ x ∈ xs, x.Wf) (hn : n ≤ 1000) :
    Calls Tryz.prog 21 #[.slice A n c] w fun e w' => e = .returned (.tuple #[.string (strL (rowV xs).1), .int .i64 ((rowV xs).2 : Int)]) ∧ Below w.heap.size w w' := by
  have hxn : xs.length = n := by
    have := hr.1
    rw [vcells_length] at this
    omega
  have hcap : c ≤ 9223372036854775807 := hr.2.2.1
  have hle := hr.2.1
  obtain ⟨iS, hiS, hzS, hsS, hbS⟩ := info_parts info_str
  go_enter Tryz.func21, Tryz.ntmps21
  go_wp2
  go_loopw [4, 11] (fun o p wr => ∃ (k : Nat) (B : Option Addr) (d : Nat), o = .slice B k d ∧ p = .int .i64 (k : Int) ∧ k ≤ n ∧ (∀ x ∈ xs.take k, x.chk = 0) ∧ Ov wr w.heap.size 9 1 B k d ((xs.take k).map tcell) ∧ Below w.heap.size w wr)
    (fun _ p wr => n - (intOf p).toNat)
  case atStart => exact ⟨0, none, 0, rfl, rfl, by omega, by simp, Ov.nil _ _ _ _, Below.refl _ _⟩
  case round =>
    obtain ⟨k, B, d, rfl, rfl, hk, h0, hO, hbw⟩ := hrel
    by_cases hlt : k < n
    · obtain ⟨b1, o1, rfl, hb1, hc1⟩ := hr.2.2.2 (by omega)
      have e1 := vcells_cell hc1 (fun o => hbw.cell (p := ⟨b1, o, none⟩) hb1) k (by omega)
      have hbad := find_bad (xs := xs) (k := k) (by omega) h0
      have hwf := hw (xs[k]'(by omega)) (List.getElem_mem _)
      have htk : xs.take (k + 1) = xs.take k ++ [xs[k]'(by omega)] := List.take_succ_eq_append_getElem (by omega)
      generalize xs[k]'(by omega) = x at *
      obtain ⟨xk, xi, xu, xs'⟩ := x
      simp only at e1
      have hba : Below wr.heap.size wr (wr.alloc (.cells #[.int .i64 xk, .int .i64 xi, .int .u64 xu, .string (strL xs')] 25)) := (Below.refl _ wr).alloc (Nat.le_refl _) _
      have hE2 := hE.below (gr hbw hba)
      have htx := Text_any ⟨xk, xi, xu, xs'⟩ _ hE2 hwf
      unfold TextP at htx
      simp only [Vl.val, valV] at htx
      have hlt1 : (k : Int) < (n : Int) := by omega
      have hO1 := hO.below hba
      generalize hch : Vl.chk ⟨xk, xi, xu, xs'⟩ = z at *
      replace htx := Lib.hid htx
      replace hbad := Lib.hid hbad
      replace htk := Lib.hid htk
      go_wp2_with fail
      refine htx.out.mono ?_
      rintro e w1 ⟨rfl, hb1'⟩
      have hbw1 := gr (gr hbw hba) hb1'
      have hO2 := hO1.below hb1'
      clear htx hO1 hb1' hba e1 hE2 hc1
      by_cases hz : z = 0
      · subst hz
        have hd : ((0 : Int) != 0) = false := rfl
        have htl := textV_length hwf hch
        simp only [if_true]
        have hr3 : Rv (w1.alloc (.cells #[.string (strL (textV ⟨xk, xi, xu, xs'⟩))] 9)) 1 (some ⟨w1.heap.size, 0, none⟩) 1 1 [tcell ⟨xk, xi, xu, xs'⟩] := Rv.new1 w1 9 [tcell ⟨xk, xi, xu, xs'⟩] (by unfold maxLen; simp)
        have hb3 : Below w1.heap.size w1 (w1.alloc (.cells #[.string (strL (textV ⟨xk, xi, xu, xs'⟩))] 9)) := (Below.refl _ w1).alloc (Nat.le_refl _) _
        have hO3 := hO2.below hb3
        have hws := hbw1.size
        clear htl
        go_wp2_with (at_builtin; refine wpList_append_v _ rfl _ _ 82 rfl 9 iS (.string ByteArray.empty) 1 16 Tryz.underlying82 hiS hzS hsS hbS rfl (by decide) w.heap.size B k d _ rfl hO3 (some ⟨w1.heap.size, 0, none⟩) 1 1 [tcell ⟨xk, xi, xu, xs'⟩] rfl hr3 (by simp [tcell, Value.oneCell']) (by unfold maxLen; omega) (by omega) (by simp; omega) ?_; intro B' d' w2 hO4 hg4 hab4)
        refine ⟨⟨k + 1, B', d', rfl, by simp, by omega, ?_, ?_, (hbw1.trans (hb3.mono hws)).grown hg4 (by simp; omega) (fun q e => (hO.ab q e).1)⟩, by simp [intOf]; omega⟩
        · rw [htk.out]
          intro x hx
          rcases List.mem_append.1 hx with hx | hx
          · exact h0 x hx
          · rw [List.mem_singleton.1 hx]; exact hch
        · rw [htk.out, List.map_append]
          exact hO4
      · have hd : ((z : Int) != 0) = true := by simp; omega
        have hN := hbad.out (by omega)
        replace hN := Lib.hid hN
        simp only [if_neg hz]
        clear hbad hO2 hz hch
        go_wp2
        go_ret2
        exact ⟨by rw [hN.out]; rfl, hbw1⟩
    · obtain rfl : k = n := by omega
      have hall : ∀ x ∈ xs, x.chk = 0 := by
        rw [List.take_of_length_le (by omega)] at h0
        exact h0
      have hN := find_none hall
      rw [List.take_of_length_le (by omega)] at hO
      replace hN := Lib.hid hN
      have hjl := join_length [44, 32] (xs.map textV) (by
        intro t ht
        obtain ⟨x, hx, rfl⟩ := List.mem_map.1 ht
        exact textV_length (hw x hx) (hall x hx))
      have hj : ∀ W, Below wr.heap.size wr W → Calls Tryz.prog 44 #[.slice B k d, .string (strL [44, 32])] W fun e w' => e = .returned (.string (strL (Lib.join (xs.map textV) [44, 32]))) ∧ Below W.heap.size W w' := by
        intro W hW
        have hR := Ov.rv (hO.below hW)
        by_cases hk0 : k = 0
        · subst hk0
          have hx0 : xs = [] := List.eq_nil_of_length_eq_zero hxn
          subst hx0
          exact (Tryz.strings_Join_none B d (strL [44, 32]) W).mono fun e w' ⟨he, hw⟩ => ⟨he, hw ▸ Below.refl _ _⟩
        · obtain ⟨g, o, rfl, hg, hc⟩ := hR.2.2.2 (by omega)
          have h := Tryz.strings_Join g o d (xs.map fun x => strL (textV x)) (strL [44, 32]) W (fun j y hy => by
            rw [List.getElem?_map] at hy
            refine hc j (.string y) ?_
            rw [List.getElem?_map]
            cases hj : xs[j]? with
            | none => rw [hj] at hy; cases hy
            | some x =>
              rw [hj] at hy
              injection hy with hy
              subst hy
              rfl) hg (by simp; omega) (by simp; have := hR.2.1; omega) (by
            simp only [List.map_map]
            have e : (xs.map ((fun x => x.data.toList) ∘ fun x => strL (textV x))) = xs.map textV := List.map_congr_left fun x _ => rfl
            rw [e, strL_list]
            simp at hjl
            omega)
          have e : ((xs.map fun x => strL (textV x)).map fun x => x.data.toList) = xs.map textV := by
            rw [List.map_map]
            exact List.map_congr_left fun x _ => rfl
          rw [List.length_map, hxn, e] at h
          exact h
      replace hj := Lib.hid hj
      clear hO h0 hall hr hjl
      go_wp2_with fail
      refine (hj.out _ (Below.refl _ _)).mono ?_
      rintro e w2 ⟨rfl, hb2⟩
      have hfin := gr hbw hb2
      clear hj hb2
      go_wp2
      go_ret2
      exact ⟨by rw [hN.out]; rfl, hfin⟩
end Go.Proofs.YtcicmeggbkhniaaGreatDoor
