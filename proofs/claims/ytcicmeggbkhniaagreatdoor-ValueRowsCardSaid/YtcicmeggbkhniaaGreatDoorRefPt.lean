/- The reference's Row, Same. -/
import Derived.Test.YtcicmeggbkhniaaGreatDoorRefTx
import Derived.Test.YtcicmeggbkhniaaGreatDoorRowsP
import Derived.Test.YtcicmeggbkhniaaGreatDoorRefPc
namespace Go.Proofs.YtcicmeggbkhniaaGreatDoor
open Go.RowKit
set_option linter.unusedVariables false

theorem join_snoc' (sep t : List UInt8) : ∀ (l : List (List UInt8)), l ≠ [] → Lib.join (l ++ [t]) sep = Lib.join l sep ++ (sep ++ t)
  | [], h => absurd rfl h
  | [u], _ => by
    rw [List.singleton_append, Lib.join_cons, Lib.join_cons]
    simp [Lib.joinTail]
  | u :: v :: r, _ => by
    have ih := join_snoc' sep t (v :: r) (by simp)
    rw [List.cons_append, Lib.join_cons, Lib.join_cons]
    rw [List.cons_append, Lib.join_cons, Lib.join_cons] at ih
    have e : ∀ a b, Lib.joinTail sep (a :: b) = sep ++ a ++ Lib.joinTail sep b := fun a b => by simp [Lib.joinTail]
    rw [List.cons_append, e, e]
    simp only [List.append_assoc] at *
    rw [ih]

attribute [local go_sem] strL_size
set_option maxRecDepth 100000 in
set_option maxHeartbeats 2000000 in
theorem rRow_any (A : Option Addr) (n c : Nat) (xs : List Vl) (w : World) (hE : Env w) (hr : Rv w 4 A n c (vcells xs)) (hw : ∀ x ∈ xs, x.Wf) (hn : n ≤ 1000) :
    Calls Tryz.prog 22 #[.slice A n c] w fun e w' => e = .returned (.tuple #[.string (strL (rowV xs).1), .int .i64 ((rowV xs).2 : Int)]) ∧ Below w.heap.size w w' := by
  have hxn : xs.length = n := by
    have := hr.1
    rw [vcells_length] at this
    omega
  have hcap : c ≤ 9223372036854775807 := hr.2.2.1
  have hle := hr.2.1
  go_enter Tryz.func22, Tryz.ntmps22
  go_wp2
  go_loopw [4, 5] (fun o p wr => ∃ k : Nat, o = .string (strL (Lib.join ((xs.take k).map textV) [44, 32])) ∧ p = .int .i64 (k : Int) ∧ k ≤ n ∧ (∀ x ∈ xs.take k, x.chk = 0) ∧ Below w.heap.size w wr)
    (fun _ p wr => n - (intOf p).toNat)
  case atStart => exact ⟨0, rfl, rfl, by omega, by simp, Below.refl _ _⟩
  case round =>
    obtain ⟨k, rfl, rfl, hk, h0, hbw⟩ := hrel
    by_cases hlt : k < n
    · obtain ⟨b1, o1, rfl, hb1, hc1⟩ := hr.2.2.2 (by omega)
      have e1 := vcells_cell hc1 (fun o => hbw.cell (p := ⟨b1, o, none⟩) hb1) k (by omega)
      have hbad := find_bad (xs := xs) (k := k) (by omega) h0
      have hwf := hw (xs[k]'(by omega)) (List.getElem_mem _)
      have htk : xs.take (k + 1) = xs.take k ++ [xs[k]'(by omega)] := List.take_succ_eq_append_getElem (by omega)
      have hjl := join_length [44, 32] ((xs.take k).map textV) (by
        intro t ht
        obtain ⟨x, hx, rfl⟩ := List.mem_map.1 ht
        exact textV_length (hw x (List.mem_of_mem_take hx)) (h0 x hx))
      have hjn : Lib.join ((xs.take (k + 1)).map textV) [44, 32] = if k = 0 then textV (xs[k]'(by omega)) else Lib.join ((xs.take k).map textV) [44, 32] ++ ([44, 32] ++ textV (xs[k]'(by omega))) := by
        rw [htk, List.map_append, List.map_singleton]
        by_cases hz : k = 0
        · rw [if_pos hz]
          simp [hz, Lib.join_cons, Lib.joinTail]
        · rw [if_neg hz]
          refine join_snoc' _ _ _ (fun e => ?_)
          rw [List.map_eq_nil_iff, List.take_eq_nil_iff] at e
          rcases e with e | e
          · exact hz e
          · rw [e] at hxn
            simp at hxn
            omega
      have hj0 : k = 0 → Lib.join ((xs.take k).map textV) [44, 32] = [] := fun e => by rw [e]; rfl
      have hjl2 : (Lib.join ((xs.take k).map textV) [44, 32]).length ≤ 600000 := by
        have h1 : ((xs.take k).map textV).length ≤ 1000 := by rw [List.length_map, List.length_take]; omega
        have h2 := Nat.mul_le_mul_right (500 + ([44, 32] : List UInt8).length) h1
        have h3 : 1000 * (500 + ([44, 32] : List UInt8).length) = 502000 := rfl
        omega
      clear hjl
      generalize Lib.join ((xs.take k).map textV) [44, 32] = J at *
      generalize xs[k]'(by omega) = x at *
      obtain ⟨xk, xi, xu, xs'⟩ := x
      simp only at e1
      have htx := rText_any ⟨xk, xi, xu, xs'⟩ _ (hE.below hbw) hwf
      unfold TextP at htx
      simp only [Vl.val, valV] at htx
      have hlt1 : (k : Int) < (n : Int) := by omega
      have htl : Vl.chk ⟨xk, xi, xu, xs'⟩ = 0 → (textV ⟨xk, xi, xu, xs'⟩).length ≤ 500 := fun h => textV_length hwf h
      generalize hch : Vl.chk ⟨xk, xi, xu, xs'⟩ = z at *
      generalize textV ⟨xk, xi, xu, xs'⟩ = T at *
      by_cases hz : z = 0
      · subst hz
        have hd : ((0 : Int) != 0) = false := rfl
        have htl2 := htl rfl
        simp only [if_true] at htx
        have h02 : ∀ x ∈ xs.take (k + 1), x.chk = 0 := by
          rw [htk]
          intro x hx
          rcases List.mem_append.1 hx with hx | hx
          · exact h0 x hx
          · rw [List.mem_singleton.1 hx]; exact hch
        by_cases hk0 : k = 0
        · subst hk0
          rw [if_pos rfl] at hjn
          obtain rfl := hj0 rfl
          simp only [Nat.zero_mul, Nat.add_zero] at e1
          replace htx := Lib.hid htx
          replace hjn := Lib.hid hjn
          replace h02 := Lib.hid h02
          clear hbad htk h0 hch htl
          go_wp2_with fail
          refine htx.out.mono ?_
          rintro e w1 ⟨rfl, g1⟩
          have hb2 := gr hbw g1
          have z1 : ¬ 9223372036854775807 < T.length := by omega
          clear htx g1
          go_wp2
          refine ⟨⟨1, ?_, rfl, by omega, h02.out, hb2⟩, by simp [intOf]; omega⟩
          rw [hjn.out, append_strs]
          rfl
        · rw [if_neg hk0] at hjn
          have d2 : decide ((0 : Int) < (k : Int)) = true := by simp; omega
          replace htx := Lib.hid htx
          replace hjn := Lib.hid hjn
          replace h02 := Lib.hid h02
          clear hbad htk h0 hch htl hj0
          go_wp2_with fail
          refine htx.out.mono ?_
          rintro e w1 ⟨rfl, g1⟩
          have hb2 := gr hbw g1
          have z1 : ¬ 9223372036854775807 < J.length + 2 := by omega
          have z2 : ¬ 9223372036854775807 < J.length + 2 + T.length := by omega
          clear htx g1
          go_wp2
          refine ⟨⟨k + 1, ?_, by simp, by omega, h02.out, hb2⟩, by simp [intOf]; omega⟩
          rw [hjn.out, ← append_strs, ← append_strs, ByteArray.append_assoc]
          rfl
      · have hd : ((z : Int) != 0) = true := by simp; omega
        have hN := hbad (by omega)
        replace hN := Lib.hid hN
        simp only [if_neg hz] at htx
        replace htx := Lib.hid htx
        clear hbad hjn htk h0 hch htl hj0
        go_wp2_with fail
        refine htx.out.mono ?_
        rintro e w1 ⟨rfl, g1⟩
        have hb2 := gr hbw g1
        clear htx g1
        go_wp2
        go_ret2
        exact ⟨by rw [hN.out]; rfl, hb2⟩
    · obtain rfl : k = n := by omega
      have hall : ∀ x ∈ xs, x.chk = 0 := by
        rw [List.take_of_length_le (by omega)] at h0
        exact h0
      have hN := find_none hall
      rw [List.take_of_length_le (by omega)]
      replace hN := Lib.hid hN
      clear hall h0 hr
      generalize Lib.join (xs.map textV) [44, 32] = J at *
      go_wp2
      go_ret2
      exact ⟨by rw [hN.out]; rfl, hbw⟩
theorem rSame_any (A : Option Addr) (n c : Nat) (xs : List Vl) (B : Option Addr) (m d : Nat) (ys : List Vl) (w : World) (hr : Rv w 4 A n c (vcells xs)) (hq : Rv w 4 B m d (vcells ys)) :
    Calls Tryz.prog 24 #[.slice A n c, .slice B m d] w fun e w' => e = .returned (.bool (listsV xs ys == 0)) ∧ Below w.heap.size w w' := by
  have hc := Lists_any A n c xs B m d ys w hr hq
  replace hc := Lib.hid hc
  go_enter Tryz.func24, Tryz.ntmps24
  go_wp2_with fail
  refine hc.out.mono ?_
  rintro e w1 ⟨rfl, hb⟩
  clear hc
  go_wp2
  go_ret
  exact ⟨rfl, hb⟩
end Go.Proofs.YtcicmeggbkhniaaGreatDoor
