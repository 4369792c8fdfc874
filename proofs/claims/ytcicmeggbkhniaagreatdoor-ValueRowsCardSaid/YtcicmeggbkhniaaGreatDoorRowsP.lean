/- The values of a text, piece by piece. Plain laws; no program in sight. -/
import Derived.Test.YtcicmeggbkhniaaGreatDoorRowV
import Derived.Test.YtcicmeggbkhniaaGreatDoorParseE
import Derived.Lib.SplitLaws
import Derived.Lib.IndexMore
import Derived.Lib.IndexLaws
namespace Go.Proofs.YtcicmeggbkhniaaGreatDoor
open Go.Lib
set_option linter.unusedVariables false

/-- What stands between two values. -/
def sepL : List UInt8 := [44, 32]
theorem split_miss {s : List UInt8} (h : index s sepL = -1) : split s sepL = [s] := by
  unfold split
  rw [count_miss h]
  rfl
theorem split_hit {s : List UInt8} {i : Nat} (h : index s sepL = i) : split s sepL = s.take i :: split (s.drop (i + 2)) sepL := by
  unfold split
  rw [count_hit (by decide) h, Nat.add_comm 1, splitK, if_neg (by rw [h]; simp), h]
  rfl
/-- The values of pieces, as far as they are. -/
def goV : List (List UInt8) → List Vl
  | [] => []
  | t :: r => if (readT t).2 = 0 then (readT t).1 :: goV r else []
/-- The values of a text. -/
def partsV (s : List UInt8) : List Vl := if s = [] then [] else goV (split s sepL)
theorem goV_length : ∀ l, (goV l).length ≤ l.length
  | [] => Nat.le_refl _
  | t :: r => by
    unfold goV
    split
    · simp; exact goV_length r
    · simp
theorem split_length (s : List UInt8) : (split s sepL).length = count s sepL + 1 := by
  have h := splitB_all (strL sepL) (by decide) 0 (countB (strL s) (strL sepL)) (strL s) rfl
  have e := splitB_data (strL sepL) 0 (countB (strL s) (strL sepL)) (strL s)
  have e2 := congrArg List.length e
  rw [List.length_map, h] at e2
  exact e2.symm
theorem split_size : ∀ (n : Nat) (s : List UInt8), s.length ≤ n → (split s sepL).length ≤ s.length + 1 := by
  intro n
  induction n with
  | zero =>
    intro s hs
    obtain rfl : s = [] := List.eq_nil_of_length_eq_zero (by omega)
    rw [split_miss (by decide)]
    simp
  | succ n ih =>
    intro s hs
    rcases index_spec s sepL with ⟨h, -⟩ | ⟨i, h, hi, -, -⟩
    · rw [split_miss h]
      simp
    · have hr := index_room s sepL (by rw [h]; omega)
      rw [h] at hr
      simp [sepL] at hr
      rw [split_hit h, List.length_cons]
      have := ih (s.drop (i + 2)) (by simp; omega)
      simp at this
      omega
theorem partsV_length (s : List UInt8) : (partsV s).length ≤ s.length + 1 := by
  unfold partsV
  split
  · simp
  · exact Nat.le_trans (goV_length _) (split_size s.length s (Nat.le_refl _))
/-- Each value of a text is such as the types hold. -/
theorem goV_wf : ∀ l, ∀ x ∈ goV l, x.Wf
  | [], x, h => by cases h
  | t :: r, x, h => by
    unfold goV at h
    split at h
    · rename_i h0
      rcases List.mem_cons.1 h with rfl | h
      · exact (textV_readT (l := t) (by rw [← h0])).2.2
      · exact goV_wf r x h
    · cases h
theorem piece_le : ∀ (n : Nat) (s : List UInt8), s.length ≤ n → ∀ t ∈ split s sepL, t.length ≤ s.length := by
  intro n
  induction n with
  | zero =>
    intro s hs t ht
    obtain rfl : s = [] := List.eq_nil_of_length_eq_zero (by omega)
    rw [split_miss (by decide)] at ht
    rw [List.mem_singleton.1 ht]
    exact Nat.le_refl _
  | succ n ih =>
    intro s hs t ht
    rcases index_spec s sepL with ⟨h, -⟩ | ⟨i, h, hi, -, -⟩
    · rw [split_miss h] at ht
      rw [List.mem_singleton.1 ht]
      exact Nat.le_refl _
    · rw [split_hit h] at ht
      have hr := index_room s sepL (by rw [h]; omega)
      rw [h] at hr
      simp [sepL] at hr
      rcases List.mem_cons.1 ht with rfl | ht
      · simp; omega
      · have := ih (s.drop (i + 2)) (by simp; omega) t ht
        simp at this
        omega

/-! ### a row's text is read as the row -/
theorem hexDig_ne : ∀ n, n < 16 → hexDig n ≠ 44 := by decide
theorem hexL_ne : ∀ s : List UInt8, 44 ∉ hexL s
  | [] => by simp [hexL]
  | b :: r => by
    have hb := b.toNat_lt
    simp only [hexL, List.mem_cons, not_or]
    exact ⟨fun e => hexDig_ne _ (by omega) e.symm, fun e => hexDig_ne _ (by omega) e.symm, hexL_ne r⟩
theorem textV_ne {x : Vl} (h : x.chk = 0) : 44 ∉ textV x := by
  rcases chk_ways h with rfl | ⟨i, rfl⟩ | ⟨u, rfl⟩ | rfl | rfl | ⟨s, rfl, hs⟩
  · decide
  · intro hm
    have := itoa_all i 44 hm
    revert this; decide
  · intro hm
    have ht : textV ⟨2, 0, u, []⟩ = decDigits u.toNat ++ [117] := rfl
    rw [ht] at hm
    rcases List.mem_append.1 hm with hm | hm
    · have := decDigits_all u.toNat 44 hm
      revert this; decide
    · revert hm; decide
  · decide
  · decide
  · intro hm
    have ht : textV ⟨4, 0, 0, s⟩ = 120 :: 39 :: (hexL s ++ [39]) := rfl
    rw [ht] at hm
    simp only [List.mem_cons, List.mem_append, List.not_mem_nil, or_false] at hm
    rcases hm with hm | hm | hm | hm
    · cases hm
    · cases hm
    · exact hexL_ne s hm
    · cases hm
theorem occ_not {t r : List UInt8} (h : 44 ∉ t) {j : Nat} (hj : j < t.length) : occAt (t ++ r) sepL j = false := by
  unfold occAt sepL
  rw [List.drop_append_of_le_length (by omega), List.drop_eq_getElem_cons hj]
  have hne : t[j] ≠ 44 := fun e => h (e ▸ List.getElem_mem hj)
  have hb : ((44 : UInt8) == t[j]) = false := by simpa using fun e => hne e.symm
  rw [List.cons_append, List.isPrefixOf, hb, Bool.false_and]
theorem split_join : ∀ (t : List UInt8) (r : List (List UInt8)), 44 ∉ t → (∀ u ∈ r, 44 ∉ u) → split (join (t :: r) sepL) sepL = t :: r
  | t, [], h, _ => by
    rw [join_cons]
    have e : joinTail sepL [] = [] := rfl
    rw [e, List.append_nil]
    refine split_miss (index_none fun j hj => ?_)
    rcases Nat.lt_or_ge j t.length with h1 | h1
    · have := occ_not (r := []) h h1
      rwa [List.append_nil] at this
    · unfold occAt
      rw [List.drop_eq_nil_of_le h1]
      rfl
  | t, u :: r, h, hr => by
    have ih := split_join u r (hr u (by simp)) (fun v hv => hr v (by simp [hv]))
    have e : join (t :: u :: r) sepL = t ++ (sepL ++ join (u :: r) sepL) := by
      rw [join_cons, join_cons]
      simp [joinTail]
    rw [e]
    have hi : index (t ++ (sepL ++ join (u :: r) sepL)) sepL = t.length := index_first (by simp) (by
      unfold occAt
      rw [List.drop_append_of_le_length (Nat.le_refl _), List.drop_length, List.nil_append]
      rw [List.isPrefixOf_iff_prefix]
      exact List.prefix_append _ _) (fun j hj => occ_not h hj)
    rw [split_hit hi]
    have e1 : (t ++ (sepL ++ join (u :: r) sepL)).take t.length = t := by simp
    have e2 : (t ++ (sepL ++ join (u :: r) sepL)).drop (t.length + 2) = join (u :: r) sepL := by
      rw [List.drop_append, List.drop_eq_nil_of_le (by omega), List.nil_append, show t.length + 2 - t.length = 2 from by omega]
      rfl
    rw [e1, e2, ih]
theorem textV_nil {x : Vl} (hw : x.Wf) (h : x.chk = 0) : textV x ≠ [] := fun e => by
  have := readT_textV hw h
  rw [e] at this
  have h2 : readT [] = (zeroT, 110) := rfl
  rw [h2] at this
  cases this
theorem goV_map : ∀ xs : List Vl, (∀ x ∈ xs, x.Wf) → (∀ x ∈ xs, x.chk = 0) → goV (xs.map textV) = xs
  | [], _, _ => rfl
  | x :: xs, h1, h2 => by
    rw [List.map_cons, goV, readT_textV (h1 x (by simp)) (h2 x (by simp)), if_pos rfl, goV_map xs (fun y hy => h1 y (by simp [hy])) (fun y hy => h2 y (by simp [hy]))]
theorem partsV_row {xs : List Vl} (h1 : ∀ x ∈ xs, x.Wf) (h2 : (rowV xs).2 = 0) : partsV (rowV xs).1 = xs := by
  have hall : ∀ x ∈ xs, x.chk = 0 := by
    unfold rowV at h2
    split at h2
    · rename_i x hx
      have := List.find?_some hx
      simp at this
      exact absurd h2 this
    · rename_i hx
      intro x hx2
      have := List.find?_eq_none.1 hx x hx2
      simpa using this
  rw [find_none hall]
  cases xs with
  | nil => rfl
  | cons x xs =>
    unfold partsV
    have hne : join (List.map textV (x :: xs)) [44, 32] ≠ [] := by
      rw [List.map_cons, join_cons]
      intro e
      exact textV_nil (h1 x (by simp)) (hall x (by simp)) (List.append_eq_nil_iff.1 e).1
    rw [if_neg hne]
    have := split_join (textV x) (xs.map textV) (textV_ne (hall x (by simp))) (fun u hu => by
      obtain ⟨y, hy, rfl⟩ := List.mem_map.1 hu
      exact textV_ne (hall y (by simp [hy])))
    rw [List.map_cons]
    show goV (split (join (textV x :: xs.map textV) sepL) sepL) = _
    rw [this, ← List.map_cons]
    exact goV_map (x :: xs) h1 hall
theorem rowV_fst_length {xs : List Vl} (h1 : ∀ x ∈ xs, x.Wf) : (rowV xs).1.length ≤ 500 + xs.length * 502 := by
  unfold rowV
  split
  · simp
  · rename_i hx
    have hall : ∀ x ∈ xs, x.chk = 0 := fun x hx2 => by
      have := List.find?_eq_none.1 hx x hx2
      simpa using this
    have := join_length [44, 32] (xs.map textV) (fun t ht => by
      obtain ⟨y, hy, rfl⟩ := List.mem_map.1 ht
      exact textV_length (h1 y hy) (hall y hy))
    simpa using this
end Go.Proofs.YtcicmeggbkhniaaGreatDoor
