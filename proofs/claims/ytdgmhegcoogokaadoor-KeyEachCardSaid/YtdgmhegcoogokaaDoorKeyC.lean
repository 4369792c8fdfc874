/- key.Encode. -/
import Derived.Test.YtdgmhegcoogokaaDoorKeyB
import Derived.Test.YtdgmhegcoogokaaDoorVl
namespace Go.Proofs.YtdgmhegcoogokaaDoor
open Go.RowKit
set_option linter.unusedVariables false

/-- What stands behind a value's Kind. -/
def restV (x : Vl) : List UInt8 :=
  if x.k = 0 then [] else if x.k = 1 then beB (x.i + 9223372036854775808).toNat 8 else if x.k = 2 then numL x.u.toNat else if x.k = 3 then [UInt8.ofNat x.i.toNat] else grpL x.s
def keyV (x : Vl) : List UInt8 := UInt8.ofNat x.k.toNat :: restV x
def keysV (xs : List Vl) : List UInt8 := xs.flatMap keyV
/-- What Encode tells. -/
def encV (xs : List Vl) : List UInt8 × Nat :=
  match xs.find? (fun x => x.chk ≠ 0) with
  | some x => ([], x.chk)
  | none => if 2000 < (keysV xs).length then ([], 3) else (keysV xs, 0)

theorem grpL_length : ∀ (d : Nat) (l : List UInt8), l.length ≤ d → (grpL l).length ≤ 2 * l.length + 9
  | 0, l, h => by
    obtain rfl : l = [] := List.eq_nil_of_length_eq_zero (by omega)
    unfold grpL
    simp
  | d + 1, l, h => by
    unfold grpL
    split
    · rename_i h8
      have := grpL_length d (l.drop 8) (by simp; omega)
      simp at this ⊢
      omega
    · simp
      omega

theorem chk_ok {x : Vl} (h : x.chk = 0) : x.ok = true ∧ x.s.length ≤ 200 := by
  unfold Vl.chk chkV at h
  unfold Vl.ok
  by_cases ho : okV x.k x.i x.u (strL x.s) = true
  · rw [if_pos ho] at h
    by_cases hl : 200 < (strL x.s).size
    · rw [if_pos hl] at h; cases h
    · rw [strL_size] at hl
      exact ⟨ho, by omega⟩
  · rw [if_neg ho] at h
    cases h
theorem ok_kinds {x : Vl} (h : x.ok = true) : x.k = 0 ∨ x.k = 1 ∨ x.k = 2 ∨ (x.k = 3 ∧ (x.i = 0 ∨ x.i = 1)) ∨ x.k = 4 := by
  unfold Vl.ok okV at h
  simp at h
  omega

theorem keyV_length {x : Vl} (w : x.Wf) (h : x.chk = 0) : (keyV x).length ≤ 500 ∧ 1 ≤ (keyV x).length := by
  obtain ⟨ho, hs⟩ := chk_ok h
  have hg := grpL_length x.s.length x.s (Nat.le_refl _)
  have hn := needN_le x.u.toNat (by have := w.u1; omega)
  unfold keyV restV
  rcases ok_kinds ho with hk | hk | hk | ⟨hk, _⟩ | hk <;> simp [hk, beB_length, numL_length]
  · omega
  · omega

def layF (k : Int) : FuncId := if k = 0 then 34 else if k = 1 then 36 else if k = 2 then 43 else if k = 3 then 48 else 50
def readF (k : Int) : FuncId := if k = 0 then 35 else if k = 1 then 39 else if k = 2 then 45 else if k = 3 then 49 else 51

theorem seek_K (k : Int) (h0 : 0 ≤ k) (h4 : k ≤ 4) : seek k KKinds 0 = some (k.toNat, vk (layF k) (readF k)) := by
  have : k = 0 ∨ k = 1 ∨ k = 2 ∨ k = 3 ∨ k = 4 := by omega
  rcases this with rfl | rfl | rfl | rfl | rfl <;> rfl
theorem layF_enters (k : Int) (args : Array Value) (w : World) : (callFunc (layF k) args).run Tryd.prog w = .ok (.enter (layF k) args) w := by
  unfold layF
  split
  · exact enters_of Tryd.func34 (by kernel_rfl) rfl _ _
  split
  · exact enters_of Tryd.func36 (by kernel_rfl) rfl _ _
  split
  · exact enters_of Tryd.func43 (by kernel_rfl) rfl _ _
  split
  · exact enters_of Tryd.func48 (by kernel_rfl) rfl _ _
  · exact enters_of Tryd.func50 (by kernel_rfl) rfl _ _
theorem readF_enters (k : Int) (args : Array Value) (w : World) : (callFunc (readF k) args).run Tryd.prog w = .ok (.enter (readF k) args) w := by
  unfold readF
  split
  · exact enters_of Tryd.func35 (by kernel_rfl) rfl _ _
  split
  · exact enters_of Tryd.func39 (by kernel_rfl) rfl _ _
  split
  · exact enters_of Tryd.func45 (by kernel_rfl) rfl _ _
  split
  · exact enters_of Tryd.func49 (by kernel_rfl) rfl _ _
  · exact enters_of Tryd.func51 (by kernel_rfl) rfl _ _
theorem lay_any (x : Vl) (hw : x.Wf) (h : x.chk = 0) (w : World) : Calls Tryd.prog (layF x.k) #[x.val] w (NewB w (restV x)) := by
  obtain ⟨ho, hs⟩ := chk_ok h
  unfold Vl.val restV
  rcases ok_kinds ho with hk | hk | hk | ⟨hk, hi⟩ | hk
  · have e : layF x.k = 34 := by rw [hk]; rfl
    rw [e, if_pos hk]
    exact lay_0 _ _ _ _ _
  · have e : layF x.k = 36 := by rw [hk]; rfl
    rw [e, if_neg (by omega), if_pos hk]
    exact lay_1 _ _ _ _ _ hw.i0 hw.i1
  · have e : layF x.k = 43 := by rw [hk]; rfl
    rw [e, if_neg (by omega), if_neg (by omega), if_pos hk]
    exact lay_2 _ _ _ _ _ hw.u0 hw.u1
  · have e : layF x.k = 48 := by rw [hk]; rfl
    rw [e, if_neg (by omega), if_neg (by omega), if_neg (by omega), if_pos hk]
    exact lay_3 _ _ _ _ _ (by omega) (by omega)
  · have e : layF x.k = 50 := by rw [hk]; rfl
    rw [e, if_neg (by omega), if_neg (by omega), if_neg (by omega), if_neg (by omega)]
    exact klaid_any _ _ _ _ _ (by omega)
end Go.Proofs.YtdgmhegcoogokaaDoor
