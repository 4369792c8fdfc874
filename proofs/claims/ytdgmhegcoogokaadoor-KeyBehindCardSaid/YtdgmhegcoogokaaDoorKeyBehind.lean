/- KeyBehind: true, whatever the two texts. -/
import Derived.Test.YtdgmhegcoogokaaDoorKeyW
namespace Go.Proofs.YtdgmhegcoogokaaDoor
open Go.RowKit
set_option linter.unusedVariables false
attribute [local go_sem] strL_toList strL_size

theorem between : ∀ (l k : List UInt8), Op.bytesLess k l = false → ¬ k = l → Op.bytesLess k (l ++ [0]) = false
  | [], [], _, h => absurd rfl h
  | [], b :: k, _, _ => by
    cases k <;> simp [Op.bytesLess]
  | a :: l, [], h, _ => by simp [Op.bytesLess] at h
  | a :: l, b :: k, h1, h2 => by
    simp only [List.cons_append, Op.bytesLess] at *
    by_cases hab : b = a
    · subst hab
      simp at h1 h2 ⊢
      exact between l k h1 h2
    · simp [hab] at h1 ⊢
      exact h1

set_option maxRecDepth 100000 in
theorem KeyBehind_walk (l k : List UInt8) (w : World) (h1 : l.length ≤ maxLen) (h2 : k.length ≤ maxLen) :
    Calls Tryd.prog 7 #[.string (strL l), .string (strL k)] w fun e w' => e = .returned (.bool true) ∧ Below w.heap.size w w' := by
  by_cases hl : 300 < l.length
  · have hd1 : decide ((300 : Int) < (l.length : Int)) = true := by simp; omega
    go_enter Tryd.func7, Tryd.ntmps7
    go_wp2_with (go_at_call 9; refine (works_any _).mono ?_; rintro e w' ⟨rfl, hb⟩)
    go_ret
    exact ⟨rfl, hb⟩
  have hd1 : decide ((300 : Int) < (l.length : Int)) = false := by simp; omega
  by_cases hk : 300 < k.length
  · have hd2 : decide ((300 : Int) < (k.length : Int)) = true := by simp; omega
    go_enter Tryd.func7, Tryd.ntmps7
    go_wp2_with (go_at_call 9; refine (works_any _).mono ?_; rintro e w' ⟨rfl, hb⟩)
    go_ret
    exact ⟨rfl, hb⟩
  have hd2 : decide ((300 : Int) < (k.length : Int)) = false := by simp; omega
  have hn : ¬ 9223372036854775807 < l.length + 1 := by omega
  have hz1 := strL_0 l
  have hz2 := strL_255 l
  by_cases hc : Op.bytesLess k l = false ∧ ¬ k = l
  · have hq := between l k hc.1 hc.2
    go_enter Tryd.func7, Tryd.ntmps7
    go_wp2_with (first
      | (go_at_call 20; refine (Behind_any l _ (by omega)).mono ?_; rintro e w' ⟨rfl, rfl⟩)
      | (go_at_call 19; refine (All_any l _ (by omega)).mono ?_; rintro e w' ⟨rfl, rfl⟩)
      | (go_at_call 9; refine (works_any _).mono ?_; rintro e w' ⟨rfl, hb⟩))
    go_ret
    exact ⟨rfl, hb⟩
  · skip
    go_enter Tryd.func7, Tryd.ntmps7
    go_wp2_with (first
      | (go_at_call 20; refine (Behind_any l _ (by omega)).mono ?_; rintro e w' ⟨rfl, rfl⟩)
      | (go_at_call 19; refine (All_any l _ (by omega)).mono ?_; rintro e w' ⟨rfl, rfl⟩)
      | (go_at_call 9; refine (works_any _).mono ?_; rintro e w' ⟨rfl, hb⟩))
    go_ret
    exact ⟨rfl, hb⟩
end Go.Proofs.YtdgmhegcoogokaaDoor
