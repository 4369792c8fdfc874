/- The order of values is one. Plain laws; no program in sight. -/
import Derived.Test.YtcicmeggbkhniaaGreatDoorRefV
import Derived.Test.YtcicmeggbkhniaaGreatDoorTextP
namespace Go.Proofs.YtcicmeggbkhniaaGreatDoor
set_option linter.unusedVariables false

theorem bl_flip : ∀ a b : List UInt8, a ≠ b → Op.bytesLess b a = !Op.bytesLess a b
  | [], [], h => absurd rfl h
  | [], _ :: _, _ => by simp [Op.bytesLess]
  | _ :: _, [], _ => by simp [Op.bytesLess]
  | x :: a, y :: b, h => by
    by_cases e : x = y
    · subst e
      have h2 : a ≠ b := fun e => h (by rw [e])
      simp [Op.bytesLess, bl_flip a b h2]
    · have e1 : (x == y) = false := by simpa using e
      have e2 : (y == x) = false := by simpa using fun h => e h.symm
      have e3 : x.toNat ≠ y.toNat := fun h => e (UInt8.toNat_inj.1 h)
      simp only [Op.bytesLess, e1, e2, Bool.false_and, Bool.or_false, UInt8.lt_iff_toNat_lt]
      by_cases h1 : x.toNat < y.toNat
      · simp [h1]; omega
      · simp [h1]; omega
theorem bl_trans : ∀ a b c : List UInt8, Op.bytesLess a b = true → Op.bytesLess b c = true → Op.bytesLess a c = true
  | [], [], _, h, _ => by simp [Op.bytesLess] at h
  | [], _ :: _, [], _, h => by simp [Op.bytesLess] at h
  | [], _ :: _, _ :: _, _, _ => by simp [Op.bytesLess]
  | _ :: _, [], _, h, _ => by simp [Op.bytesLess] at h
  | _ :: _, _ :: _, [], _, h => by simp [Op.bytesLess] at h
  | x :: a, y :: b, z :: c, h1, h2 => by
    have ih := bl_trans a b c
    simp only [Op.bytesLess, Bool.or_eq_true, Bool.and_eq_true, decide_eq_true_eq, beq_iff_eq, UInt8.lt_iff_toNat_lt] at *
    rcases h1 with h1 | ⟨rfl, h1⟩
    · rcases h2 with h2 | ⟨rfl, h2⟩
      · exact .inl (by omega)
      · exact .inl h1
    · rcases h2 with h2 | ⟨rfl, h2⟩
      · exact .inl h2
      · exact .inr ⟨rfl, ih h1 h2⟩

def lx (p q r : Int) : Int := if p ≠ q then byV (decide (p < q)) else r
def cs (a b : List UInt8) : Int := if a ≠ b then byV (Op.bytesLess a b) else 0
theorem ordV_lx (a b : Vl) : ordV a b = lx a.k b.k (lx a.i b.i (lx a.u b.u (cs a.s b.s))) := rfl
theorem lx_flip {p q r s : Int} (h : r = -s) : lx p q r = -lx q p s := by
  unfold lx byV
  by_cases e : p = q
  · subst e; simpa using h
  · have e2 : ¬ q = p := fun h => e h.symm
    rw [if_pos e, if_pos e2]
    by_cases h1 : p < q
    · have h2 : ¬ q < p := by omega
      simp [h1, h2]
    · have h2 : q < p := by omega
      simp [h1, h2]
theorem lx_zero {p q r : Int} : lx p q r = 0 ↔ p = q ∧ r = 0 := by
  unfold lx byV
  by_cases e : p = q
  · simp [e]
  · simp [e]
    split <;> simp
theorem lx_trans {p q s r1 r2 r3 : Int} (h : r1 ≤ 0 → r2 ≤ 0 → r3 ≤ 0) (h1 : lx p q r1 ≤ 0) (h2 : lx q s r2 ≤ 0) : lx p s r3 ≤ 0 := by
  have hle : ∀ {p q r : Int}, lx p q r ≤ 0 → p < q ∨ (p = q ∧ r ≤ 0) := by
    intro p q r h
    unfold lx byV at h
    by_cases e : p = q
    · rw [if_neg (by simpa using e)] at h
      exact .inr ⟨e, h⟩
    · rw [if_pos e] at h
      by_cases h1 : p < q
      · exact .inl h1
      · simp [h1] at h
  have hlt : ∀ {p q r : Int}, p < q → lx p q r ≤ 0 := by
    intro p q r h
    unfold lx byV
    rw [if_pos (by omega)]
    simp [h]
  have k1 := hle h1
  have k2 := hle h2
  clear h1 h2
  rcases k1 with k1 | ⟨rfl, k1⟩
  · rcases k2 with k2 | ⟨rfl, k2⟩
    · exact hlt (by omega)
    · exact hlt k1
  · rcases k2 with k2 | ⟨rfl, k2⟩
    · exact hlt k2
    · unfold lx
      rw [if_neg (by simp)]
      exact h k1 k2
theorem cs_flip (a b : List UInt8) : cs a b = -cs b a := by
  unfold cs
  by_cases e : a = b
  · subst e; simp
  · rw [if_pos e, if_pos (fun h => e h.symm), bl_flip a b e]
    unfold byV
    cases Op.bytesLess a b <;> rfl
theorem cs_zero {a b : List UInt8} : cs a b = 0 ↔ a = b := by
  unfold cs
  by_cases e : a = b
  · simp [e]
  · rw [if_pos e]
    unfold byV
    constructor
    · intro h; split at h <;> cases h
    · intro h; exact absurd h e
theorem cs_trans {a b c : List UInt8} (h1 : cs a b ≤ 0) (h2 : cs b c ≤ 0) : cs a c ≤ 0 := by
  have hle : ∀ {a b : List UInt8}, cs a b ≤ 0 ↔ a = b ∨ Op.bytesLess a b = true := by
    intro a b
    unfold cs
    by_cases e : a = b
    · simp [e]
    · rw [if_pos e]
      unfold byV
      cases Op.bytesLess a b <;> simp [e]
  rw [hle] at *
  rcases h1 with rfl | h1
  · exact h2
  · rcases h2 with rfl | h2
    · exact .inr h1
    · exact .inr (bl_trans a b c h1 h2)
theorem ordV_flip (a b : Vl) : ordV a b = -ordV b a := by
  rw [ordV_lx, ordV_lx]
  exact lx_flip (lx_flip (lx_flip (cs_flip _ _)))
theorem ordV_zero (a b : Vl) : ordV a b = 0 ↔ a = b := by
  rw [ordV_lx, lx_zero, lx_zero, lx_zero, cs_zero]
  constructor
  · rintro ⟨h1, h2, h3, h4⟩
    cases a
    cases b
    simp_all
  · rintro rfl
    exact ⟨rfl, rfl, rfl, rfl⟩
theorem ordV_trans (a b c : Vl) (h1 : ordV a b ≤ 0) (h2 : ordV b c ≤ 0) : ordV a c ≤ 0 := by
  rw [ordV_lx] at *
  exact lx_trans (lx_trans (lx_trans cs_trans)) h1 h2
theorem byV_three (b : Bool) : byV b = 1 ∨ byV b = 0 ∨ byV b = -1 := by cases b <;> simp [byV]
theorem ordV_three (a b : Vl) : ordV a b = 1 ∨ ordV a b = 0 ∨ ordV a b = -1 := by
  unfold ordV
  split
  · exact byV_three _
  split
  · exact byV_three _
  split
  · exact byV_three _
  split
  · exact byV_three _
  exact .inr (.inl rfl)
/-- Texts are alike just where the values are. -/
theorem textV_inj {a b : Vl} (ha : a.Wf) (hb : b.Wf) (h1 : a.chk = 0) (h2 : b.chk = 0) (h : textV a = textV b) : a = b := by
  have k1 := readT_textV ha h1
  have k2 := readT_textV hb h2
  rw [h, k2] at k1
  exact ((Prod.mk.injEq _ _ _ _).mp k1).1.symm
end Go.Proofs.YtcicmeggbkhniaaGreatDoor
