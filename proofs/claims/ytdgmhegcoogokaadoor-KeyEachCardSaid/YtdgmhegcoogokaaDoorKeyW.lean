/- The chapter's rows of law 05 (works); Behind and All. -/
import Derived.Test.YtdgmhegcoogokaaDoorKeyJ
import Derived.Test.YtdgmhegcoogokaaDoorKeyD
namespace Go.Proofs.YtdgmhegcoogokaaDoor
open Go.RowKit
set_option linter.unusedVariables false

attribute [local go_sem] strL_toList strL_size
theorem lit_rv (w : World) (e : TypeId) (xs : List Vl) (h : xs.length ≤ maxLen) : Rv (w.alloc (.cells (vcells xs).toArray e)) 4 (some ⟨w.heap.size, 0, none⟩) xs.length xs.length (vcells xs) :=
  ⟨vcells_length xs, Nat.le_refl _, h, fun _ => ⟨w.heap.size, 0, rfl, by simp, fun j u hu => by
    have h := World.alloc_heap_new w (.cells (vcells xs).toArray e)
    simp only [World.cell?, h, Nat.zero_add]
    simpa using hu⟩⟩
theorem encV_of {xs : List Vl} {k : List UInt8} (h : ∀ x ∈ xs, x.chk = 0) (hk : keysV xs = k) (hl : k.length ≤ 2000) : encV xs = (k, 0) := by
  unfold encV
  rw [(by simpa using h : xs.find? (fun x => decide (x.chk ≠ 0)) = none)]
  subst hk
  simp only
  rw [if_neg (by omega)]

theorem lnum_any (x : Int) (w : World) : Calls Tryd.prog 12 #[.int .i64 x] w fun e w' => e = .returned (.int .i64 x) ∧ w = w' := by
  go_enter Tryd.func12, Tryd.ntmps12
  go_wp2
  go_ret
  exact ⟨rfl, rfl⟩

theorem enc1 : encV [⟨0, 0, 0, []⟩, ⟨3, 1, 0, []⟩] = ([0, 3, 1], 0) := encV_of (by decide) (by decide) (by decide)
theorem enc2 : encV [⟨1, -1, 0, []⟩] = ([1, 127, 255, 255, 255, 255, 255, 255, 255], 0) := encV_of (by decide) (by decide) (by decide)
theorem enc3 : encV [⟨2, 0, 258, []⟩] = ([2, 2, 1, 2], 0) := encV_of (by decide) (by decide) (by decide)
theorem enc4 : encV [⟨4, 0, 0, [97, 98]⟩] = ([4, 97, 98, 0, 0, 0, 0, 0, 0, 2], 0) := encV_of (by decide) (by
  unfold keysV keyV restV
  simp
  unfold grpL
  decide) (by decide)
theorem KChain.inv {l : List UInt8} {i : Nat} {xs : List (Place l)} (h : KChain l i xs) : (xs = [] ∧ readV (l.drop i) = none) ∨ ∃ p rest, xs = p :: rest ∧ p.at_ = i ∧ KChain l (i + p.k) rest := by
  cases h with
  | stop _ hno => exact .inl ⟨rfl, hno⟩
  | more p rest hch => exact .inr ⟨p, rest, rfl, rfl, hch⟩
theorem dec5 {xs : List (Place [3, 2])} (h : KChain [3, 2] 0 xs) : decV xs = ([], 150) := by
  have hn : readV ([3, 2].drop 0) = none := rfl
  rcases h.inv with ⟨rfl, _⟩ | ⟨p, rest, rfl, h0, _⟩
  · rfl
  · have := p.reads
    rw [h0, hn] at this
    cases this

set_option maxRecDepth 100000 in
theorem works_any (w : World) : Calls Tryd.prog 9 #[] w fun e w' => e = .returned (.bool true) ∧ Below w.heap.size w w' := by
  have H1 := Lib.hid enc1
  have H2 := Lib.hid enc2
  have H3 := Lib.hid enc3
  have H4 := Lib.hid enc4
  go_enter Tryd.func9, Tryd.ntmps9
  go_wp2_with fail
  refine (Encode_any _ 2 2 [⟨0, 0, 0, []⟩, ⟨3, 1, 0, []⟩] _ (lit_rv w 42 _ (by decide)) (by
    intro x hx
    rcases List.mem_cons.1 hx with rfl | hx
    · exact ⟨by decide, by decide, by decide, by decide, by decide⟩
    · rw [List.mem_singleton.1 hx]
      exact ⟨by decide, by decide, by decide, by decide, by decide⟩) (by decide)).mono ?_
  unfold EncPost
  rw [H1.out]
  rintro e w1 ⟨rfl, hb1⟩
  have hb := gr (gr_alloc (Below.refl _ w) _) hb1
  clear hb1
  go_wp2_with fail
  refine (Encode_any _ 1 1 [⟨1, -1, 0, []⟩] _ (lit_rv w1 42 _ (by decide)) (by
    intro x hx
    rw [List.mem_singleton.1 hx]
    exact ⟨by decide, by decide, by decide, by decide, by decide⟩) (by decide)).mono ?_
  unfold EncPost
  rw [H2.out]
  rintro e w2 ⟨rfl, hb2⟩
  replace hb := gr (gr_alloc hb _) hb2
  clear hb2
  go_wp2_with fail
  refine (Encode_any _ 1 1 [⟨2, 0, 258, []⟩] _ (lit_rv w2 42 _ (by decide)) (by
    intro x hx
    rw [List.mem_singleton.1 hx]
    exact ⟨by decide, by decide, by decide, by decide, by decide⟩) (by decide)).mono ?_
  unfold EncPost
  rw [H3.out]
  rintro e w3 ⟨rfl, hb3⟩
  replace hb := gr (gr_alloc hb _) hb3
  clear hb3
  go_wp2_with fail
  refine (Encode_any _ 1 1 [⟨4, 0, 0, [97, 98]⟩] _ (lit_rv w3 42 _ (by decide)) (by
    intro x hx
    rw [List.mem_singleton.1 hx]
    exact ⟨by decide, by decide, by decide, by decide, by decide⟩) (by decide)).mono ?_
  unfold EncPost
  rw [H4.out]
  rintro e w4 ⟨rfl, hb4⟩
  replace hb := gr (gr_alloc hb _) hb4
  clear hb4
  go_wp2_with fail
  obtain ⟨xs, hxs⟩ := KChain.all [3, 2] 2 0 (by decide) (by decide)
  have hde := Lib.hid (dec5 hxs)
  refine (Decode_any [3, 2] xs hxs w4 (by decide)).mono ?_
  unfold DecPost
  rw [hde.out]
  rintro e w5 ⟨A, n, c, rfl, hown, hb5⟩
  replace hb := gr hb hb5
  clear hb5 hown
  go_wp2_with (go_at_call 12; refine (lnum_any _ _).mono ?_; rintro e w' ⟨rfl, rfl⟩)
  go_ret
  exact ⟨rfl, hb⟩

theorem strL_app (l k : List UInt8) : strL l ++ strL k = strL (l ++ k) := by
  apply ByteArray.ext
  simp [strL]
theorem strL_0 (l : List UInt8) : strL l ++ { data := #[0] } = strL (l ++ [0]) := strL_app l [0]
theorem strL_255 (l : List UInt8) : strL l ++ { data := #[255] } = strL (l ++ [255]) := strL_app l [255]
theorem Behind_any (l : List UInt8) (w : World) (hl : l.length ≤ 1000000) : Calls Tryd.prog 20 #[.string (strL l)] w fun e w' => e = .returned (.string (strL (l ++ [0]))) ∧ w = w' := by
  have hn : ¬ 9223372036854775807 < l.length + 1 := by omega
  have hz := strL_0 l
  go_enter Tryd.func20, Tryd.ntmps20
  go_wp2
  go_ret
  exact ⟨rfl, rfl⟩
theorem All_any (l : List UInt8) (w : World) (hl : l.length ≤ 1000000) : Calls Tryd.prog 19 #[.string (strL l)] w fun e w' => e = .returned (.string (strL (l ++ [255]))) ∧ w = w' := by
  have hn : ¬ 9223372036854775807 < l.length + 1 := by omega
  have hz := strL_255 l
  go_enter Tryd.func19, Tryd.ntmps19
  go_wp2
  go_ret
  exact ⟨rfl, rfl⟩
end Go.Proofs.YtdgmhegcoogokaaDoor
