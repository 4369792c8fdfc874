/- The law's settled: do asks stand as they ought to? -/
import Derived.Test.YtnjhhibjcfjhnaaDoorAgn
import Derived.Test.YtnjhhibjcfjhnaaDoorLhP
namespace Go.Proofs.YtnjhhibjcfjhnaaDoor
open Go.RowKit
set_option linter.unusedVariables false

set_option maxRecDepth 100000 in
set_option maxHeartbeats 8000000 in
theorem Settled_any {w : World} {base B : Nat} {r : Option Nat} {now : Int} {zs : List Ak} (hL : LB w base B r now zs) (hz : IZ zs) {base0 B0 : Nat} {r0 : Option Nat} {now0 : Int} {zs0 : List Ak} (hL0 : LB w base0 B0 r0 now0 zs0) (hz0 : IZ zs0) (came : Nat → Int) (first : Nat → Bool) (hg : Good now came first zs0 zs) :
    Calls Tryd.prog 15 #[.pointer (some ⟨B, 0, none⟩), .pointer (some ⟨B0, 0, none⟩), .agg (icl came), .agg (bcl first)] w fun e w' => e = .returned (.bool true) ∧ Below w.heap.size w w' := by
  have hX : ∃ W, W = ((w.alloc (.cells (icl came) 27)).alloc (.cells (bcl first) 28)) ∧ (∀ V, Below W.heap.size W V → (∀ k, k < 17 → V.cell? ⟨w.heap.size, k, none⟩ = some (.int .i64 (came k))) ∧ ∀ k, k < 17 → V.cell? ⟨w.heap.size + 1, k, none⟩ = some (.bool (first k))) ∧ w.heap.size + 2 ≤ W.heap.size ∧ Below w.heap.size w W := by
    refine ⟨_, rfl, fun V hV => ?_, by simp, gr_alloc (gr_alloc (Below.refl _ _) _) _⟩
    have h1 := World.alloc_heap_new w (.cells (icl came) 27)
    have h2 := World.alloc_heap_new (w.alloc (.cells (icl came) 27)) (.cells (bcl first) 28)
    rw [World.size_alloc] at h2
    have b2 : Below (w.alloc (.cells (icl came) 27)).heap.size (w.alloc (.cells (icl came) 27)) ((w.alloc (.cells (icl came) 27)).alloc (.cells (bcl first) 28)) := (Below.refl _ _).alloc (Nat.le_refl _) _
    have g1 := (hV.block w.heap.size (by simp; omega)).trans ((b2.block w.heap.size (by simp)).trans h1)
    have g2 := (hV.block (w.heap.size + 1) (by simp)).trans h2
    refine ⟨fun k hk => ?_, fun k hk => ?_⟩
    · rw [World.cell?, g1]
      simpa using icl_at came k hk
    · rw [World.cell?, g2]
      simpa using bcl_at first k hk
  obtain ⟨w2, hw2, hcl, hsz, hb2⟩ := hX
  have hHe := Lib.hid (fun W (hW : Below w2.heap.size w2 W) s => Held_B ((hL.below hb2).below hW) hz s)
  have hHz := Lib.hid (fun W (hW : Below w2.heap.size w2 W) s => Held_B ((hL0.below hb2).below hW) hz0 s)
  have hWa := Lib.hid (fun W (hW : Below w2.heap.size w2 W) s => Waits_B ((hL.below hb2).below hW) hz s)
  have hWn := Lib.hid (fun W (hW : Below w2.heap.size w2 W) s => Wants_B ((hL.below hb2).below hW) hz s)
  have hNo := Lib.hid (fun W (hW : Below w2.heap.size w2 W) => Now_B ((hL.below hb2).below hW))
  replace hcl := Lib.hid hcl
  clear hL hL0
  go_enter Tryd.func15, Tryd.ntmps15
  go_upto_region 1 with fail
  rw [← hw2]
  replace hw2 := Lib.hid hw2
  go_wp2_with fail
  go_loopw [9] (fun q wr => ∃ a : Nat, q = .int .i64 ((a + 1 : Nat) : Int) ∧ a ≤ 16 ∧ Below w2.heap.size w2 wr)
    (fun q wr => 17 - (intOf q).toNat)
  case atStart => exact ⟨0, rfl, by omega, Below.refl _ _⟩
  case round =>
    obtain ⟨a0, rfl, ha0, hbw⟩ := hrel
    by_cases hlta : a0 < 16
    · obtain ⟨a, ha⟩ : ∃ a, a = a0 + 1 := ⟨_, rfl⟩
      rw [← ha]
      have hda : decide ((a : Int) ≤ 16) = true := by simp; omega
      have haw : IntKind.i64.wrap ((a : Int) + 1) = ((a + 1 : Nat) : Int) := by rw [IntKind.wrap_i64]; omega
      replace ha := Lib.hid ha
      go_wp2_with fail
      refine (hWa.out _ hbw _).mono ?_
      rintro e w3 ⟨rfl, hb3⟩
      replace hbw := hbw.trans (hb3.mono hbw.size)
      clear hb3
      obtain ⟨wo, hwo⟩ : ∃ wo, wo = w3 := ⟨_, rfl⟩
      subst hwo
      generalize hsa : (waitsK (a : Int) zs).1 = sa at *
      generalize hva : (waitsK (a : Int) zs).2 = va at *
      replace hsa := Lib.hid hsa
      replace hva := Lib.hid hva
      go_wp2_with fail
      go_loopw [12, 13] (fun p q wr => ∃ b : Nat, q = .int .i64 ((b + 1 : Nat) : Int) ∧ b ≤ 16 ∧ p = .bool (blkF came first zs a b) ∧ Below w2.heap.size w2 wr)
        (fun p q wr => 17 - (intOf q).toNat)
      case atStart => exact ⟨0, rfl, by omega, rfl, hbw⟩
      case round =>
        clear hbw
        obtain ⟨b0, rfl, hb0, rfl, hbw⟩ := hrel
        by_cases hltb : b0 < 16
        · obtain ⟨b, hb⟩ : ∃ b, b = b0 + 1 := ⟨_, rfl⟩
          rw [← hb]
          have hdb : decide ((b : Int) ≤ 16) = true := by simp; omega
          have hbl := blkF_succ came first zs a b0
          rw [← hb] at hbl
          generalize hq0 : blkF came first zs a b0 = q0 at *
          replace hq0 := Lib.hid hq0
          replace hbl := Lib.hid hbl
          replace hb := Lib.hid hb
          go_wp2_with fail
          refine (hWa.out _ hbw _).mono ?_
          rintro e w4 ⟨rfl, hb3⟩
          replace hbw := hbw.trans (hb3.mono hbw.size)
          clear hb3
          have hb17 : (b : Int) < 17 := by have := hb.out; omega
          have ha17 : (a : Int) < 17 := by have := ha.out; omega
          have hbw1 : IntKind.i64.wrap ((b : Int) + 1) = ((b + 1 : Nat) : Int) := by rw [IntKind.wrap_i64]; omega
          have hb1' : 1 ≤ b ∧ b ≤ 16 := by have := hb.out; omega
          have ha1' : 1 ≤ a ∧ a ≤ 16 := by have := ha.out; omega
          by_cases hab : a = b
          · have dab : ((a : Int) == (b : Int)) = true := by simp [hab]
            have hcf : condF came first zs a b = false := by unfold condF; simp [hab]
            have hN : blkF came first zs a b = q0 := by rw [hbl.out, hcf, Bool.or_false]
            replace hN := Lib.hid hN
            clear hab hcf
            replace hbf := Lib.hid hbw
            clear hbw
            go_wp2
            exact ⟨⟨b, by simp, hb1'.2, by rw [hN.out], hbf.out⟩, by simp [intOf]; have := hb.out; omega⟩
          have dab : ((a : Int) == (b : Int)) = false := by simp; omega
          go_wp2_with fail
          refine (hWn.out _ hbw _).mono ?_
          rintro e w5 ⟨A5, m5, c5, rfl, hr5, hb3⟩
          replace hbw := hbw.trans (hb3.mono hbw.size)
          clear hb3
          go_wp2_with fail
          refine (hWn.out _ hbw _).mono ?_
          rintro e w6 ⟨A6, m6, c6, rfl, hr6, hb3⟩
          have hag := Lib.hid (Against_any A5 m5 c5 _ A6 m6 c6 _ w6 (hr5.below hb3) hr6)
          replace hbw := hbw.trans (hb3.mono hbw.size)
          clear hb3 hr5 hr6
          go_wp2_with fail
          refine hag.out.mono ?_
          rintro e w7 ⟨rfl, hb3⟩
          replace hbw := hbw.trans (hb3.mono hbw.size)
          clear hag hb3
          cases hgv : ag (wantsK (a : Int) zs) (wantsK (b : Int) zs) with
          | false =>
            have hcf : condF came first zs a b = false := by unfold condF; rw [hgv]; simp
            have hN : blkF came first zs a b = q0 := by rw [hbl.out, hcf, Bool.or_false]
            replace hN := Lib.hid hN
            clear hab hcf hgv
            replace hbf := Lib.hid hbw
            clear hbw
            go_wp2
            exact ⟨⟨b, by simp, hb1'.2, by rw [hN.out], hbf.out⟩, by simp [intOf]; have := hb.out; omega⟩
          | true =>
            have F1 := hg.hh a b ha1'.1 ha1'.2 hb1'.1 hb1'.2 hab hgv
            have F2 := hg.nw a b ha1'.1 ha1'.2 hb1'.1 hb1'.2 hab hgv
            have hcond : condF came first zs a b = aheadF came first zs a b := by unfold condF; rw [hgv]; simp [hab]
            rw [hcond] at hbl
            unfold aheadF at hbl F2
            have hS := Lib.hid (fun (W : World) (hW : Below w2.heap.size w2 W) => show (W.cell? ⟨w.heap.size + 1, b, none⟩ = some (.bool (first b)) ∧ W.cell? ⟨w.heap.size + 1, a, none⟩ = some (.bool (first a))) ∧ W.cell? ⟨w.heap.size, b, none⟩ = some (.int .i64 (came b)) ∧ W.cell? ⟨w.heap.size, a, none⟩ = some (.int .i64 (came a)) from
              ⟨⟨(hcl.out W hW).2 b (by omega), (hcl.out W hW).2 a (by omega)⟩, (hcl.out W hW).1 b (by omega), (hcl.out W hW).1 a (by omega)⟩)
            clear hcond hgv hab
            have hHa := Lib.hid (fun W hW => hHe.out W hW (a : Int))
            have hHb := Lib.hid (fun W hW => hHe.out W hW (b : Int))
            have hHw := Lib.hid (fun W hW => hHz.out W hW (a : Int))
            generalize heldK (a : Int) zs = hav at *
            generalize heldK (b : Int) zs = hbv at *
            generalize heldK (a : Int) zs0 = h0v at *
            generalize (waitsK (b : Int) zs).2 = wb at *
            generalize (waitsK (b : Int) zs).1 = wb1 at *
            generalize first a = fa at *
            generalize first b = fb at *
            generalize came a = ca at *
            generalize came b = cb at *
            obtain ⟨d, hd⟩ : ∃ d, decide (cb < ca) = d := ⟨_, rfl⟩
            rw [hd] at F2
            have hbl2 := hbl.out
            rw [hd] at hbl2
            replace hbl := Lib.hid hbl2
            clear hbl2
            replace F2 := Lib.hid F2
            replace F1 := Lib.hid F1
            cases hav with
            | false =>
              clear F1 F2 hHw
              go_wp2_with fail
              refine (hHa.out _ hbw).mono ?_
              rintro e w8 ⟨rfl, hb3⟩
              replace hbw := hbw.trans (hb3.mono hbw.size)
              clear hb3
              go_upto_region 13 with fail
              cases hbv with
              | true =>
                refine wp_region_noPanic ?_
                refine wp_region_held_drew (S := fun W => (W.cell? ⟨w.heap.size + 1, b, none⟩ = some (.bool fb) ∧ W.cell? ⟨w.heap.size + 1, a, none⟩ = some (.bool fa)) ∧ W.cell? ⟨w.heap.size, b, none⟩ = some (.int .i64 cb) ∧ W.cell? ⟨w.heap.size, a, none⟩ = some (.int .i64 ca)) (by kernel_rfl) (hS.out _ hbw.drew) (fun hHeld => ?_)
                replace hbw := hbw.drew
                refine wpAnyH_takeL (i := 0) (v := ?vhy1) rfl (by kernel_rfl) (by kernel_rfl) (by kernel_rfl) (fun _ _ _ h => h) (Or.inl ⟨by rfl, ?hy1⟩) (by assumption) ?rhy1
                case hy1 => ((intro w hSw; (try dsimp only at hSw); go_simp); try with_reducible rfl)
                try simp only [Act.put, List.setIfInBounds_toArray, List.set_cons_zero, List.set_cons_succ]
                refine wpAnyH_takeL (i := 1) (v := ?vhy2) rfl (by kernel_rfl) (by kernel_rfl) (by kernel_rfl) (fun _ _ _ h => h) (Or.inl ⟨by rfl, ?hy2⟩) (by assumption) ?rhy2
                case hy2 => ((intro w hSw; (try dsimp only at hSw); go_simp); try with_reducible rfl)
                try simp only [Act.put, List.setIfInBounds_toArray, List.set_cons_zero, List.set_cons_succ]
                refine wpAnyH_ready (rs := [2]) (by kernel_rfl) (by simp) ?_
                refine AllReadyH.consL (i := 2) rfl (fun K hK => ?_) AllReadyH.nil
                go_simp
                refine (hHb.out _ hbw).mono ?_
                rintro e w8 ⟨rfl, hb3⟩
                replace hbw := hbw.trans (hb3.mono hbw.size)
                refine hK.out _ _ (hS.out _ hbw) (fun hHeld => ?_)
                clear hK hb3
                refine wpAnyH_takeL (i := 3) (v := ?vhy3) rfl (by kernel_rfl) (by kernel_rfl) (by kernel_rfl) (fun _ _ _ h => h) (Or.inl ⟨by rfl, ?hy3⟩) (by assumption) ?rhy3
                case hy3 => ((intro w hSw; (try dsimp only at hSw); go_simp); try with_reducible rfl)
                try simp only [Act.put, List.setIfInBounds_toArray, List.set_cons_zero, List.set_cons_succ]
                refine wpAnyH_takeL (i := 4) (v := undef) rfl (by kernel_rfl) (by kernel_rfl) (by kernel_rfl) (fun _ _ _ h => h) (Or.inr ⟨by rfl, rfl⟩) (by assumption) ?_
                try simp only [Act.put, List.setIfInBounds_toArray, List.set_cons_zero, List.set_cons_succ]
                refine wpAnyH_takeL (i := 5) (v := undef) rfl (by kernel_rfl) (by kernel_rfl) (by kernel_rfl) (fun _ _ _ h => h) (Or.inr ⟨by rfl, rfl⟩) (by assumption) ?_
                try simp only [Act.put, List.setIfInBounds_toArray, List.set_cons_zero, List.set_cons_succ]
                refine wpAnyH_takeL (i := 6) (v := undef) rfl (by kernel_rfl) (by kernel_rfl) (by kernel_rfl) (fun _ _ _ h => h) (Or.inr ⟨by rfl, rfl⟩) (by assumption) ?_
                try simp only [Act.put, List.setIfInBounds_toArray, List.set_cons_zero, List.set_cons_succ]
                refine wpAnyH_takeL (i := 7) (v := undef) rfl (by kernel_rfl) (by kernel_rfl) (by kernel_rfl) (fun _ _ _ h => h) (Or.inr ⟨by rfl, rfl⟩) (by assumption) ?_
                try simp only [Act.put, List.setIfInBounds_toArray, List.set_cons_zero, List.set_cons_succ]
                refine wpAnyH_takeL (i := 8) (v := undef) rfl (by kernel_rfl) (by kernel_rfl) (by kernel_rfl) (fun _ _ _ h => h) (Or.inr ⟨by rfl, rfl⟩) (by assumption) ?_
                try simp only [Act.put, List.setIfInBounds_toArray, List.set_cons_zero, List.set_cons_succ]
                refine wpAnyH_takeL (i := 9) (v := undef) rfl (by kernel_rfl) (by kernel_rfl) (by kernel_rfl) (fun _ _ _ h => h) (Or.inr ⟨by rfl, rfl⟩) (by assumption) ?_
                try simp only [Act.put, List.setIfInBounds_toArray, List.set_cons_zero, List.set_cons_succ]
                refine wpAnyH_takeL (i := 10) (v := undef) rfl (by kernel_rfl) (by kernel_rfl) (by kernel_rfl) (fun _ _ _ h => h) (Or.inr ⟨by rfl, rfl⟩) (by assumption) ?_
                try simp only [Act.put, List.setIfInBounds_toArray, List.set_cons_zero, List.set_cons_succ]
                refine wpAnyH_takeL (i := 11) (v := undef) rfl (by kernel_rfl) (by kernel_rfl) (by kernel_rfl) (fun _ _ _ h => h) (Or.inr ⟨by rfl, rfl⟩) (by assumption) ?_
                try simp only [Act.put, List.setIfInBounds_toArray, List.set_cons_zero, List.set_cons_succ]
                refine wpAnyH_takeL (i := 12) (v := undef) rfl (by kernel_rfl) (by kernel_rfl) (by kernel_rfl) (fun _ _ _ h => h) (Or.inr ⟨by rfl, rfl⟩) (by assumption) ?_
                try simp only [Act.put, List.setIfInBounds_toArray, List.set_cons_zero, List.set_cons_succ]
                refine wpAnyH_takeL (i := 13) (v := undef) rfl (by kernel_rfl) (by kernel_rfl) (by kernel_rfl) (fun _ _ _ h => h) (Or.inr ⟨by rfl, rfl⟩) (by assumption) ?_
                try simp only [Act.put, List.setIfInBounds_toArray, List.set_cons_zero, List.set_cons_succ]
                refine wpAnyH_takeL (i := 14) (v := undef) rfl (by kernel_rfl) (by kernel_rfl) (by kernel_rfl) (fun _ _ _ h => h) (Or.inr ⟨by rfl, rfl⟩) (by assumption) ?_
                try simp only [Act.put, List.setIfInBounds_toArray, List.set_cons_zero, List.set_cons_succ]
                refine wpAnyH_takeL (i := 15) (v := undef) rfl (by kernel_rfl) (by kernel_rfl) (by kernel_rfl) (fun _ _ _ h => h) (Or.inr ⟨by rfl, rfl⟩) (by assumption) ?_
                try simp only [Act.put, List.setIfInBounds_toArray, List.set_cons_zero, List.set_cons_succ]
                refine wpAnyH_takeL (i := 16) (v := undef) rfl (by kernel_rfl) (by kernel_rfl) (by kernel_rfl) (fun _ _ _ h => h) (Or.inr ⟨by rfl, rfl⟩) (by assumption) ?_
                try simp only [Act.put, List.setIfInBounds_toArray, List.set_cons_zero, List.set_cons_succ]
                refine wpAnyH_takeL (i := 17) (v := undef) rfl (by kernel_rfl) (by kernel_rfl) (by kernel_rfl) (fun _ _ _ h => h) (Or.inr ⟨by rfl, rfl⟩) (by assumption) ?_
                try simp only [Act.put, List.setIfInBounds_toArray, List.set_cons_zero, List.set_cons_succ]
                refine wpAnyH_takeL (i := 18) (v := undef) rfl (by kernel_rfl) (by kernel_rfl) (by kernel_rfl) (fun _ _ _ h => h) (Or.inr ⟨by rfl, rfl⟩) (by assumption) ?_
                try simp only [Act.put, List.setIfInBounds_toArray, List.set_cons_zero, List.set_cons_succ]
                refine wpAnyH_takeL (i := 19) (v := undef) rfl (by kernel_rfl) (by kernel_rfl) (by kernel_rfl) (fun _ _ _ h => h) (Or.inr ⟨by rfl, rfl⟩) (by assumption) ?_
                try simp only [Act.put, List.setIfInBounds_toArray, List.set_cons_zero, List.set_cons_succ]
                refine wpAnyH_takeL (i := 20) (v := undef) rfl (by kernel_rfl) (by kernel_rfl) (by kernel_rfl) (fun _ _ _ h => h) (Or.inr ⟨by rfl, rfl⟩) (by assumption) ?_
                try simp only [Act.put, List.setIfInBounds_toArray, List.set_cons_zero, List.set_cons_succ]
                refine wpAnyH_takeL (i := 21) (v := undef) rfl (by kernel_rfl) (by kernel_rfl) (by kernel_rfl) (fun _ _ _ h => h) (Or.inr ⟨by rfl, rfl⟩) (by assumption) ?_
                try simp only [Act.put, List.setIfInBounds_toArray, List.set_cons_zero, List.set_cons_succ]
                refine wpAnyH_takeL (i := 22) (v := undef) rfl (by kernel_rfl) (by kernel_rfl) (by kernel_rfl) (fun _ _ _ h => h) (Or.inr ⟨by rfl, rfl⟩) (by assumption) ?_
                try simp only [Act.put, List.setIfInBounds_toArray, List.set_cons_zero, List.set_cons_succ]
                refine wpAnyH_takeL (i := 23) (v := undef) rfl (by kernel_rfl) (by kernel_rfl) (by kernel_rfl) (fun _ _ _ h => h) (Or.inr ⟨by rfl, rfl⟩) (by assumption) ?_
                try simp only [Act.put, List.setIfInBounds_toArray, List.set_cons_zero, List.set_cons_succ]
                refine wpAnyH_takeL (i := 24) (v := undef) rfl (by kernel_rfl) (by kernel_rfl) (by kernel_rfl) (fun _ _ _ h => h) (Or.inr ⟨by rfl, rfl⟩) (by assumption) ?_
                try simp only [Act.put, List.setIfInBounds_toArray, List.set_cons_zero, List.set_cons_succ]
                refine wpAnyH_takeL (i := 25) (v := undef) rfl (by kernel_rfl) (by kernel_rfl) (by kernel_rfl) (fun _ _ _ h => h) (Or.inr ⟨by rfl, rfl⟩) (by assumption) ?_
                try simp only [Act.put, List.setIfInBounds_toArray, List.set_cons_zero, List.set_cons_succ]
                refine wpAnyH_takeL (i := 26) (v := undef) rfl (by kernel_rfl) (by kernel_rfl) (by kernel_rfl) (fun _ _ _ h => h) (Or.inr ⟨by rfl, rfl⟩) (by assumption) ?_
                try simp only [Act.put, List.setIfInBounds_toArray, List.set_cons_zero, List.set_cons_succ]
                refine wpAnyH_takeL (i := 27) (v := undef) rfl (by kernel_rfl) (by kernel_rfl) (by kernel_rfl) (fun _ _ _ h => h) (Or.inr ⟨by rfl, rfl⟩) (by assumption) ?_
                try simp only [Act.put, List.setIfInBounds_toArray, List.set_cons_zero, List.set_cons_succ]
                refine wpAnyH_takeL (i := 28) (v := undef) rfl (by kernel_rfl) (by kernel_rfl) (by kernel_rfl) (fun _ _ _ h => h) (Or.inr ⟨by rfl, rfl⟩) (by assumption) ?_
                try simp only [Act.put, List.setIfInBounds_toArray, List.set_cons_zero, List.set_cons_succ]
                refine wpAnyH_takeL (i := 29) (v := undef) rfl (by kernel_rfl) (by kernel_rfl) (by kernel_rfl) (fun _ _ _ h => h) (Or.inr ⟨by rfl, rfl⟩) (by assumption) ?_
                try simp only [Act.put, List.setIfInBounds_toArray, List.set_cons_zero, List.set_cons_succ]
                refine wpAnyH_takeL (i := 30) (v := undef) rfl (by kernel_rfl) (by kernel_rfl) (by kernel_rfl) (fun _ _ _ h => h) (Or.inr ⟨by rfl, rfl⟩) (by assumption) ?_
                try simp only [Act.put, List.setIfInBounds_toArray, List.set_cons_zero, List.set_cons_succ]
                refine wpAnyH_takeL (i := 31) (v := undef) rfl (by kernel_rfl) (by kernel_rfl) (by kernel_rfl) (fun _ _ _ h => h) (Or.inr ⟨by rfl, rfl⟩) (by assumption) ?_
                try simp only [Act.put, List.setIfInBounds_toArray, List.set_cons_zero, List.set_cons_succ]
                refine wpAnyH_takeL (i := 32) (v := undef) rfl (by kernel_rfl) (by kernel_rfl) (by kernel_rfl) (fun _ _ _ h => h) (Or.inr ⟨by rfl, rfl⟩) (by assumption) ?_
                try simp only [Act.put, List.setIfInBounds_toArray, List.set_cons_zero, List.set_cons_succ]
                refine wpAnyH_takeL (i := 33) (v := undef) rfl (by kernel_rfl) (by kernel_rfl) (by kernel_rfl) (fun _ _ _ h => h) (Or.inr ⟨by rfl, rfl⟩) (by assumption) ?_
                try simp only [Act.put, List.setIfInBounds_toArray, List.set_cons_zero, List.set_cons_succ]
                refine wpAnyH_takeL (i := 34) (v := ?vhy4) rfl (by kernel_rfl) (by kernel_rfl) (by kernel_rfl) (fun _ _ _ h => h) (Or.inl ⟨by rfl, ?hy4⟩) (by assumption) ?rhy4
                case hy4 => ((intro w hSw; (try dsimp only at hSw); go_simp); try with_reducible rfl)
                try simp only [Act.put, List.setIfInBounds_toArray, List.set_cons_zero, List.set_cons_succ]
                refine wpAnyH_takeL (i := 35) (v := ?vhy5) rfl (by kernel_rfl) (by kernel_rfl) (by kernel_rfl) (fun _ _ _ h => h) (Or.inl ⟨by rfl, ?hy5⟩) (by assumption) ?rhy5
                case hy5 => ((intro w hSw; (try dsimp only at hSw); go_simp); try with_reducible rfl)
                try simp only [Act.put, List.setIfInBounds_toArray, List.set_cons_zero, List.set_cons_succ]
                refine wpAnyH_done (by kernel_rfl) ?_ _
                refine NoPanic.normal ?_
                clear hHeld
                cases q0 with
                | true =>
                  go_wp2_with fail
                  refine (hHa.out _ hbw).mono ?_
                  rintro e w9 ⟨rfl, hb3⟩
                  replace hbw := hbw.trans (hb3.mono hbw.size)
                  clear hb3
                  replace hbf := Lib.hid hbw
                  clear hbw
                  go_wp2
                  exact ⟨⟨b, by simp, hb1'.2, by rw [hbl.out]; rfl, hbf.out⟩, by simp [intOf]; have := hb.out; omega⟩
                | false =>
                  go_wp2_with fail
                  refine (hHa.out _ hbw).mono ?_
                  rintro e w9 ⟨rfl, hb3⟩
                  replace hbw := hbw.trans (hb3.mono hbw.size)
                  clear hb3
                  replace hbf := Lib.hid hbw
                  clear hbw
                  go_wp2
                  exact ⟨⟨b, by simp, hb1'.2, by rw [hbl.out]; rfl, hbf.out⟩, by simp [intOf]; have := hb.out; omega⟩
              | false =>
                cases wb with
                | false =>
                  refine wp_region_noPanic ?_
                  refine wp_region_held_drew (S := fun W => (W.cell? ⟨w.heap.size + 1, b, none⟩ = some (.bool fb) ∧ W.cell? ⟨w.heap.size + 1, a, none⟩ = some (.bool fa)) ∧ W.cell? ⟨w.heap.size, b, none⟩ = some (.int .i64 cb) ∧ W.cell? ⟨w.heap.size, a, none⟩ = some (.int .i64 ca)) (by kernel_rfl) (hS.out _ hbw.drew) (fun hHeld => ?_)
                  replace hbw := hbw.drew
                  refine wpAnyH_takeL (i := 0) (v := ?vhy6) rfl (by kernel_rfl) (by kernel_rfl) (by kernel_rfl) (fun _ _ _ h => h) (Or.inl ⟨by rfl, ?hy6⟩) (by assumption) ?rhy6
                  case hy6 => ((intro w hSw; (try dsimp only at hSw); go_simp); try with_reducible rfl)
                  try simp only [Act.put, List.setIfInBounds_toArray, List.set_cons_zero, List.set_cons_succ]
                  refine wpAnyH_takeL (i := 1) (v := ?vhy7) rfl (by kernel_rfl) (by kernel_rfl) (by kernel_rfl) (fun _ _ _ h => h) (Or.inl ⟨by rfl, ?hy7⟩) (by assumption) ?rhy7
                  case hy7 => ((intro w hSw; (try dsimp only at hSw); go_simp); try with_reducible rfl)
                  try simp only [Act.put, List.setIfInBounds_toArray, List.set_cons_zero, List.set_cons_succ]
                  refine wpAnyH_ready (rs := [2]) (by kernel_rfl) (by simp) ?_
                  refine AllReadyH.consL (i := 2) rfl (fun K hK => ?_) AllReadyH.nil
                  go_simp
                  refine (hHb.out _ hbw).mono ?_
                  rintro e w8 ⟨rfl, hb3⟩
                  replace hbw := hbw.trans (hb3.mono hbw.size)
                  refine hK.out _ _ (hS.out _ hbw) (fun hHeld => ?_)
                  clear hK hb3
                  refine wpAnyH_takeL (i := 3) (v := ?vhy8) rfl (by kernel_rfl) (by kernel_rfl) (by kernel_rfl) (fun _ _ _ h => h) (Or.inl ⟨by rfl, ?hy8⟩) (by assumption) ?rhy8
                  case hy8 => ((intro w hSw; (try dsimp only at hSw); go_simp); try with_reducible rfl)
                  try simp only [Act.put, List.setIfInBounds_toArray, List.set_cons_zero, List.set_cons_succ]
                  refine wpAnyH_takeL (i := 4) (v := ?vhy9) rfl (by kernel_rfl) (by kernel_rfl) (by kernel_rfl) (fun _ _ _ h => h) (Or.inl ⟨by rfl, ?hy9⟩) (by assumption) ?rhy9
                  case hy9 => ((intro w hSw; (try dsimp only at hSw); go_simp); try with_reducible rfl)
                  try simp only [Act.put, List.setIfInBounds_toArray, List.set_cons_zero, List.set_cons_succ]
                  refine wpAnyH_takeL (i := 5) (v := ?vhy10) rfl (by kernel_rfl) (by kernel_rfl) (by kernel_rfl) (fun _ _ _ h => h) (Or.inl ⟨by rfl, ?hy10⟩) (by assumption) ?rhy10
                  case hy10 => ((intro w hSw; (try dsimp only at hSw); go_simp); try with_reducible rfl)
                  try simp only [Act.put, List.setIfInBounds_toArray, List.set_cons_zero, List.set_cons_succ]
                  refine wpAnyH_takeL (i := 6) (v := undef) rfl (by kernel_rfl) (by kernel_rfl) (by kernel_rfl) (fun _ _ _ h => h) (Or.inr ⟨by rfl, rfl⟩) (by assumption) ?_
                  try simp only [Act.put, List.setIfInBounds_toArray, List.set_cons_zero, List.set_cons_succ]
                  refine wpAnyH_takeL (i := 7) (v := undef) rfl (by kernel_rfl) (by kernel_rfl) (by kernel_rfl) (fun _ _ _ h => h) (Or.inr ⟨by rfl, rfl⟩) (by assumption) ?_
                  try simp only [Act.put, List.setIfInBounds_toArray, List.set_cons_zero, List.set_cons_succ]
                  refine wpAnyH_takeL (i := 8) (v := undef) rfl (by kernel_rfl) (by kernel_rfl) (by kernel_rfl) (fun _ _ _ h => h) (Or.inr ⟨by rfl, rfl⟩) (by assumption) ?_
                  try simp only [Act.put, List.setIfInBounds_toArray, List.set_cons_zero, List.set_cons_succ]
                  refine wpAnyH_takeL (i := 9) (v := undef) rfl (by kernel_rfl) (by kernel_rfl) (by kernel_rfl) (fun _ _ _ h => h) (Or.inr ⟨by rfl, rfl⟩) (by assumption) ?_
                  try simp only [Act.put, List.setIfInBounds_toArray, List.set_cons_zero, List.set_cons_succ]
                  refine wpAnyH_takeL (i := 10) (v := undef) rfl (by kernel_rfl) (by kernel_rfl) (by kernel_rfl) (fun _ _ _ h => h) (Or.inr ⟨by rfl, rfl⟩) (by assumption) ?_
                  try simp only [Act.put, List.setIfInBounds_toArray, List.set_cons_zero, List.set_cons_succ]
                  refine wpAnyH_takeL (i := 11) (v := undef) rfl (by kernel_rfl) (by kernel_rfl) (by kernel_rfl) (fun _ _ _ h => h) (Or.inr ⟨by rfl, rfl⟩) (by assumption) ?_
                  try simp only [Act.put, List.setIfInBounds_toArray, List.set_cons_zero, List.set_cons_succ]
                  refine wpAnyH_takeL (i := 12) (v := undef) rfl (by kernel_rfl) (by kernel_rfl) (by kernel_rfl) (fun _ _ _ h => h) (Or.inr ⟨by rfl, rfl⟩) (by assumption) ?_
                  try simp only [Act.put, List.setIfInBounds_toArray, List.set_cons_zero, List.set_cons_succ]
                  refine wpAnyH_takeL (i := 13) (v := undef) rfl (by kernel_rfl) (by kernel_rfl) (by kernel_rfl) (fun _ _ _ h => h) (Or.inr ⟨by rfl, rfl⟩) (by assumption) ?_
                  try simp only [Act.put, List.setIfInBounds_toArray, List.set_cons_zero, List.set_cons_succ]
                  refine wpAnyH_takeL (i := 14) (v := undef) rfl (by kernel_rfl) (by kernel_rfl) (by kernel_rfl) (fun _ _ _ h => h) (Or.inr ⟨by rfl, rfl⟩) (by assumption) ?_
                  try simp only [Act.put, List.setIfInBounds_toArray, List.set_cons_zero, List.set_cons_succ]
                  refine wpAnyH_takeL (i := 15) (v := undef) rfl (by kernel_rfl) (by kernel_rfl) (by kernel_rfl) (fun _ _ _ h => h) (Or.inr ⟨by rfl, rfl⟩) (by assumption) ?_
                  try simp only [Act.put, List.setIfInBounds_toArray, List.set_cons_zero, List.set_cons_succ]
                  refine wpAnyH_takeL (i := 16) (v := undef) rfl (by kernel_rfl) (by kernel_rfl) (by kernel_rfl) (fun _ _ _ h => h) (Or.inr ⟨by rfl, rfl⟩) (by assumption) ?_
                  try simp only [Act.put, List.setIfInBounds_toArray, List.set_cons_zero, List.set_cons_succ]
                  refine wpAnyH_takeL (i := 17) (v := undef) rfl (by kernel_rfl) (by kernel_rfl) (by kernel_rfl) (fun _ _ _ h => h) (Or.inr ⟨by rfl, rfl⟩) (by assumption) ?_
                  try simp only [Act.put, List.setIfInBounds_toArray, List.set_cons_zero, List.set_cons_succ]
                  refine wpAnyH_takeL (i := 18) (v := undef) rfl (by kernel_rfl) (by kernel_rfl) (by kernel_rfl) (fun _ _ _ h => h) (Or.inr ⟨by rfl, rfl⟩) (by assumption) ?_
                  try simp only [Act.put, List.setIfInBounds_toArray, List.set_cons_zero, List.set_cons_succ]
                  refine wpAnyH_takeL (i := 19) (v := undef) rfl (by kernel_rfl) (by kernel_rfl) (by kernel_rfl) (fun _ _ _ h => h) (Or.inr ⟨by rfl, rfl⟩) (by assumption) ?_
                  try simp only [Act.put, List.setIfInBounds_toArray, List.set_cons_zero, List.set_cons_succ]
                  refine wpAnyH_takeL (i := 20) (v := undef) rfl (by kernel_rfl) (by kernel_rfl) (by kernel_rfl) (fun _ _ _ h => h) (Or.inr ⟨by rfl, rfl⟩) (by assumption) ?_
                  try simp only [Act.put, List.setIfInBounds_toArray, List.set_cons_zero, List.set_cons_succ]
                  refine wpAnyH_takeL (i := 21) (v := undef) rfl (by kernel_rfl) (by kernel_rfl) (by kernel_rfl) (fun _ _ _ h => h) (Or.inr ⟨by rfl, rfl⟩) (by assumption) ?_
                  try simp only [Act.put, List.setIfInBounds_toArray, List.set_cons_zero, List.set_cons_succ]
                  refine wpAnyH_takeL (i := 22) (v := undef) rfl (by kernel_rfl) (by kernel_rfl) (by kernel_rfl) (fun _ _ _ h => h) (Or.inr ⟨by rfl, rfl⟩) (by assumption) ?_
                  try simp only [Act.put, List.setIfInBounds_toArray, List.set_cons_zero, List.set_cons_succ]
                  refine wpAnyH_takeL (i := 23) (v := undef) rfl (by kernel_rfl) (by kernel_rfl) (by kernel_rfl) (fun _ _ _ h => h) (Or.inr ⟨by rfl, rfl⟩) (by assumption) ?_
                  try simp only [Act.put, List.setIfInBounds_toArray, List.set_cons_zero, List.set_cons_succ]
                  refine wpAnyH_takeL (i := 24) (v := undef) rfl (by kernel_rfl) (by kernel_rfl) (by kernel_rfl) (fun _ _ _ h => h) (Or.inr ⟨by rfl, rfl⟩) (by assumption) ?_
                  try simp only [Act.put, List.setIfInBounds_toArray, List.set_cons_zero, List.set_cons_succ]
                  refine wpAnyH_takeL (i := 25) (v := undef) rfl (by kernel_rfl) (by kernel_rfl) (by kernel_rfl) (fun _ _ _ h => h) (Or.inr ⟨by rfl, rfl⟩) (by assumption) ?_
                  try simp only [Act.put, List.setIfInBounds_toArray, List.set_cons_zero, List.set_cons_succ]
                  refine wpAnyH_takeL (i := 26) (v := undef) rfl (by kernel_rfl) (by kernel_rfl) (by kernel_rfl) (fun _ _ _ h => h) (Or.inr ⟨by rfl, rfl⟩) (by assumption) ?_
                  try simp only [Act.put, List.setIfInBounds_toArray, List.set_cons_zero, List.set_cons_succ]
                  refine wpAnyH_takeL (i := 27) (v := undef) rfl (by kernel_rfl) (by kernel_rfl) (by kernel_rfl) (fun _ _ _ h => h) (Or.inr ⟨by rfl, rfl⟩) (by assumption) ?_
                  try simp only [Act.put, List.setIfInBounds_toArray, List.set_cons_zero, List.set_cons_succ]
                  refine wpAnyH_takeL (i := 28) (v := undef) rfl (by kernel_rfl) (by kernel_rfl) (by kernel_rfl) (fun _ _ _ h => h) (Or.inr ⟨by rfl, rfl⟩) (by assumption) ?_
                  try simp only [Act.put, List.setIfInBounds_toArray, List.set_cons_zero, List.set_cons_succ]
                  refine wpAnyH_takeL (i := 29) (v := undef) rfl (by kernel_rfl) (by kernel_rfl) (by kernel_rfl) (fun _ _ _ h => h) (Or.inr ⟨by rfl, rfl⟩) (by assumption) ?_
                  try simp only [Act.put, List.setIfInBounds_toArray, List.set_cons_zero, List.set_cons_succ]
                  refine wpAnyH_takeL (i := 30) (v := undef) rfl (by kernel_rfl) (by kernel_rfl) (by kernel_rfl) (fun _ _ _ h => h) (Or.inr ⟨by rfl, rfl⟩) (by assumption) ?_
                  try simp only [Act.put, List.setIfInBounds_toArray, List.set_cons_zero, List.set_cons_succ]
                  refine wpAnyH_takeL (i := 31) (v := undef) rfl (by kernel_rfl) (by kernel_rfl) (by kernel_rfl) (fun _ _ _ h => h) (Or.inr ⟨by rfl, rfl⟩) (by assumption) ?_
                  try simp only [Act.put, List.setIfInBounds_toArray, List.set_cons_zero, List.set_cons_succ]
                  refine wpAnyH_takeL (i := 32) (v := undef) rfl (by kernel_rfl) (by kernel_rfl) (by kernel_rfl) (fun _ _ _ h => h) (Or.inr ⟨by rfl, rfl⟩) (by assumption) ?_
                  try simp only [Act.put, List.setIfInBounds_toArray, List.set_cons_zero, List.set_cons_succ]
                  refine wpAnyH_takeL (i := 33) (v := ?vhy11) rfl (by kernel_rfl) (by kernel_rfl) (by kernel_rfl) (fun _ _ _ h => h) (Or.inl ⟨by rfl, ?hy11⟩) (by assumption) ?rhy11
                  case hy11 => ((intro w hSw; (try dsimp only at hSw); go_simp); try with_reducible rfl)
                  try simp only [Act.put, List.setIfInBounds_toArray, List.set_cons_zero, List.set_cons_succ]
                  refine wpAnyH_takeL (i := 34) (v := ?vhy12) rfl (by kernel_rfl) (by kernel_rfl) (by kernel_rfl) (fun _ _ _ h => h) (Or.inl ⟨by rfl, ?hy12⟩) (by assumption) ?rhy12
                  case hy12 => ((intro w hSw; (try dsimp only at hSw); go_simp); try with_reducible rfl)
                  try simp only [Act.put, List.setIfInBounds_toArray, List.set_cons_zero, List.set_cons_succ]
                  refine wpAnyH_takeL (i := 35) (v := ?vhy13) rfl (by kernel_rfl) (by kernel_rfl) (by kernel_rfl) (fun _ _ _ h => h) (Or.inl ⟨by rfl, ?hy13⟩) (by assumption) ?rhy13
                  case hy13 => ((intro w hSw; (try dsimp only at hSw); go_simp); try with_reducible rfl)
                  try simp only [Act.put, List.setIfInBounds_toArray, List.set_cons_zero, List.set_cons_succ]
                  refine wpAnyH_done (by kernel_rfl) ?_ _
                  refine NoPanic.normal ?_
                  clear hHeld
                  cases q0 with
                  | true =>
                    go_wp2_with fail
                    refine (hHa.out _ hbw).mono ?_
                    rintro e w9 ⟨rfl, hb3⟩
                    replace hbw := hbw.trans (hb3.mono hbw.size)
                    clear hb3
                    replace hbf := Lib.hid hbw
                    clear hbw
                    go_wp2
                    exact ⟨⟨b, by simp, hb1'.2, by rw [hbl.out]; rfl, hbf.out⟩, by simp [intOf]; have := hb.out; omega⟩
                  | false =>
                    go_wp2_with fail
                    refine (hHa.out _ hbw).mono ?_
                    rintro e w9 ⟨rfl, hb3⟩
                    replace hbw := hbw.trans (hb3.mono hbw.size)
                    clear hb3
                    replace hbf := Lib.hid hbw
                    clear hbw
                    go_wp2
                    exact ⟨⟨b, by simp, hb1'.2, by rw [hbl.out]; rfl, hbf.out⟩, by simp [intOf]; have := hb.out; omega⟩
                | true =>
                  cases fb with
                  | true =>
                    cases fa with
                    | false =>
                      refine wp_region_noPanic ?_
                      refine wp_region_held_drew (S := fun W => (W.cell? ⟨w.heap.size + 1, b, none⟩ = some (.bool true) ∧ W.cell? ⟨w.heap.size + 1, a, none⟩ = some (.bool false)) ∧ W.cell? ⟨w.heap.size, b, none⟩ = some (.int .i64 cb) ∧ W.cell? ⟨w.heap.size, a, none⟩ = some (.int .i64 ca)) (by kernel_rfl) (hS.out _ hbw.drew) (fun hHeld => ?_)
                      replace hbw := hbw.drew
                      refine wpAnyH_takeL (i := 0) (v := ?vhy14) rfl (by kernel_rfl) (by kernel_rfl) (by kernel_rfl) (fun _ _ _ h => h) (Or.inl ⟨by rfl, ?hy14⟩) (by assumption) ?rhy14
                      case hy14 => ((intro w hSw; (try dsimp only at hSw); go_simp); try with_reducible rfl)
                      try simp only [Act.put, List.setIfInBounds_toArray, List.set_cons_zero, List.set_cons_succ]
                      refine wpAnyH_takeL (i := 1) (v := ?vhy15) rfl (by kernel_rfl) (by kernel_rfl) (by kernel_rfl) (fun _ _ _ h => h) (Or.inl ⟨by rfl, ?hy15⟩) (by assumption) ?rhy15
                      case hy15 => ((intro w hSw; (try dsimp only at hSw); go_simp); try with_reducible rfl)
                      try simp only [Act.put, List.setIfInBounds_toArray, List.set_cons_zero, List.set_cons_succ]
                      refine wpAnyH_ready (rs := [2]) (by kernel_rfl) (by simp) ?_
                      refine AllReadyH.consL (i := 2) rfl (fun K hK => ?_) AllReadyH.nil
                      go_simp
                      refine (hHb.out _ hbw).mono ?_
                      rintro e w8 ⟨rfl, hb3⟩
                      replace hbw := hbw.trans (hb3.mono hbw.size)
                      refine hK.out _ _ (hS.out _ hbw) (fun hHeld => ?_)
                      clear hK hb3
                      refine wpAnyH_takeL (i := 3) (v := ?vhy16) rfl (by kernel_rfl) (by kernel_rfl) (by kernel_rfl) (fun _ _ _ h => h) (Or.inl ⟨by rfl, ?hy16⟩) (by assumption) ?rhy16
                      case hy16 => ((intro w hSw; (try dsimp only at hSw); go_simp); try with_reducible rfl)
                      try simp only [Act.put, List.setIfInBounds_toArray, List.set_cons_zero, List.set_cons_succ]
                      refine wpAnyH_takeL (i := 4) (v := ?vhy17) rfl (by kernel_rfl) (by kernel_rfl) (by kernel_rfl) (fun _ _ _ h => h) (Or.inl ⟨by rfl, ?hy17⟩) (by assumption) ?rhy17
                      case hy17 => ((intro w hSw; (try dsimp only at hSw); go_simp); try with_reducible rfl)
                      try simp only [Act.put, List.setIfInBounds_toArray, List.set_cons_zero, List.set_cons_succ]
                      refine wpAnyH_takeL (i := 5) (v := ?vhy18) rfl (by kernel_rfl) (by kernel_rfl) (by kernel_rfl) (fun _ _ _ h => h) (Or.inl ⟨by rfl, ?hy18⟩) (by assumption) ?rhy18
                      case hy18 => ((intro w hSw; (try dsimp only at hSw); go_simp); try with_reducible rfl)
                      try simp only [Act.put, List.setIfInBounds_toArray, List.set_cons_zero, List.set_cons_succ]
                      refine wpAnyH_takeL (i := 6) (v := ?vhy19) rfl (by kernel_rfl) (by kernel_rfl) (by kernel_rfl) (fun _ _ _ h => h) (Or.inl ⟨by rfl, ?hy19⟩) (by assumption) ?rhy19
                      case hy19 => ((intro w hSw; (try dsimp only at hSw); go_simp); try with_reducible rfl)
                      try simp only [Act.put, List.setIfInBounds_toArray, List.set_cons_zero, List.set_cons_succ]
                      refine wpAnyH_takeL (i := 7) (v := ?vhy20) rfl (by kernel_rfl) (by kernel_rfl) (by kernel_rfl) (fun _ _ _ h => h) (Or.inl ⟨by rfl, ?hy20⟩) (by assumption) ?rhy20
                      case hy20 => ((intro w hSw; (try dsimp only at hSw); go_simp); try with_reducible rfl)
                      try simp only [Act.put, List.setIfInBounds_toArray, List.set_cons_zero, List.set_cons_succ]
                      refine wpAnyH_takeL (i := 8) (v := ?vhy21) rfl (by kernel_rfl) (by kernel_rfl) (by kernel_rfl) (fun _ _ _ h => h) (Or.inl ⟨by rfl, ?hy21⟩) (by assumption) ?rhy21
                      case hy21 => ((intro w hSw; (try dsimp only at hSw); go_simp); try with_reducible rfl)
                      try simp only [Act.put, List.setIfInBounds_toArray, List.set_cons_zero, List.set_cons_succ]
                      refine wpAnyH_takeL (i := 9) (v := ?vhy22) rfl (by kernel_rfl) (by kernel_rfl) (by kernel_rfl) (fun _ _ _ h => h) (Or.inl ⟨by rfl, ?hy22⟩) (by assumption) ?rhy22
                      case hy22 => ((intro w hSw; (try dsimp only at hSw); go_simp); try with_reducible rfl)
                      try simp only [Act.put, List.setIfInBounds_toArray, List.set_cons_zero, List.set_cons_succ]
                      refine wpAnyH_takeL (i := 10) (v := ?vhy23) rfl (by kernel_rfl) (by kernel_rfl) (by kernel_rfl) (fun _ _ _ h => h) (Or.inl ⟨by rfl, ?hy23⟩) (by assumption) ?rhy23
                      case hy23 => ((intro w hSw; (try dsimp only at hSw); go_simp); try with_reducible rfl)
                      try simp only [Act.put, List.setIfInBounds_toArray, List.set_cons_zero, List.set_cons_succ]
                      refine wpAnyH_takeL (i := 11) (v := ?vhy24) rfl (by kernel_rfl) (by kernel_rfl) (by kernel_rfl) (fun _ _ _ h => h) (Or.inl ⟨by rfl, ?hy24⟩) (by assumption) ?rhy24
                      case hy24 => ((intro w hSw; (try dsimp only at hSw); go_simp); try with_reducible rfl)
                      try simp only [Act.put, List.setIfInBounds_toArray, List.set_cons_zero, List.set_cons_succ]
                      refine wpAnyH_takeL (i := 12) (v := ?vhy25) rfl (by kernel_rfl) (by kernel_rfl) (by kernel_rfl) (fun _ _ _ h => h) (Or.inl ⟨by rfl, ?hy25⟩) (by assumption) ?rhy25
                      case hy25 => ((intro w hSw; (try dsimp only at hSw); go_simp); try with_reducible rfl)
                      try simp only [Act.put, List.setIfInBounds_toArray, List.set_cons_zero, List.set_cons_succ]
                      refine wpAnyH_takeL (i := 13) (v := ?vhy26) rfl (by kernel_rfl) (by kernel_rfl) (by kernel_rfl) (fun _ _ _ h => h) (Or.inl ⟨by rfl, ?hy26⟩) (by assumption) ?rhy26
                      case hy26 => ((intro w hSw; (try dsimp only at hSw); go_simp); try with_reducible rfl)
                      try simp only [Act.put, List.setIfInBounds_toArray, List.set_cons_zero, List.set_cons_succ]
                      refine wpAnyH_takeL (i := 14) (v := ?vhy27) rfl (by kernel_rfl) (by kernel_rfl) (by kernel_rfl) (fun _ _ _ h => h) (Or.inl ⟨by rfl, ?hy27⟩) (by assumption) ?rhy27
                      case hy27 => ((intro w hSw; (try dsimp only at hSw); go_simp); try with_reducible rfl)
                      try simp only [Act.put, List.setIfInBounds_toArray, List.set_cons_zero, List.set_cons_succ]
                      refine wpAnyH_takeL (i := 15) (v := ?vhy28) rfl (by kernel_rfl) (by kernel_rfl) (by kernel_rfl) (fun _ _ _ h => h) (Or.inl ⟨by rfl, ?hy28⟩) (by assumption) ?rhy28
                      case hy28 => ((intro w hSw; (try dsimp only at hSw); go_simp); try with_reducible rfl)
                      try simp only [Act.put, List.setIfInBounds_toArray, List.set_cons_zero, List.set_cons_succ]
                      refine wpAnyH_takeL (i := 16) (v := undef) rfl (by kernel_rfl) (by kernel_rfl) (by kernel_rfl) (fun _ _ _ h => h) (Or.inr ⟨by rfl, rfl⟩) (by assumption) ?_
                      try simp only [Act.put, List.setIfInBounds_toArray, List.set_cons_zero, List.set_cons_succ]
                      refine wpAnyH_takeL (i := 17) (v := undef) rfl (by kernel_rfl) (by kernel_rfl) (by kernel_rfl) (fun _ _ _ h => h) (Or.inr ⟨by rfl, rfl⟩) (by assumption) ?_
                      try simp only [Act.put, List.setIfInBounds_toArray, List.set_cons_zero, List.set_cons_succ]
                      refine wpAnyH_takeL (i := 18) (v := undef) rfl (by kernel_rfl) (by kernel_rfl) (by kernel_rfl) (fun _ _ _ h => h) (Or.inr ⟨by rfl, rfl⟩) (by assumption) ?_
                      try simp only [Act.put, List.setIfInBounds_toArray, List.set_cons_zero, List.set_cons_succ]
                      refine wpAnyH_takeL (i := 19) (v := undef) rfl (by kernel_rfl) (by kernel_rfl) (by kernel_rfl) (fun _ _ _ h => h) (Or.inr ⟨by rfl, rfl⟩) (by assumption) ?_
                      try simp only [Act.put, List.setIfInBounds_toArray, List.set_cons_zero, List.set_cons_succ]
                      refine wpAnyH_takeL (i := 20) (v := undef) rfl (by kernel_rfl) (by kernel_rfl) (by kernel_rfl) (fun _ _ _ h => h) (Or.inr ⟨by rfl, rfl⟩) (by assumption) ?_
                      try simp only [Act.put, List.setIfInBounds_toArray, List.set_cons_zero, List.set_cons_succ]
                      refine wpAnyH_takeL (i := 21) (v := undef) rfl (by kernel_rfl) (by kernel_rfl) (by kernel_rfl) (fun _ _ _ h => h) (Or.inr ⟨by rfl, rfl⟩) (by assumption) ?_
                      try simp only [Act.put, List.setIfInBounds_toArray, List.set_cons_zero, List.set_cons_succ]
                      refine wpAnyH_takeL (i := 22) (v := undef) rfl (by kernel_rfl) (by kernel_rfl) (by kernel_rfl) (fun _ _ _ h => h) (Or.inr ⟨by rfl, rfl⟩) (by assumption) ?_
                      try simp only [Act.put, List.setIfInBounds_toArray, List.set_cons_zero, List.set_cons_succ]
                      refine wpAnyH_takeL (i := 23) (v := undef) rfl (by kernel_rfl) (by kernel_rfl) (by kernel_rfl) (fun _ _ _ h => h) (Or.inr ⟨by rfl, rfl⟩) (by assumption) ?_
                      try simp only [Act.put, List.setIfInBounds_toArray, List.set_cons_zero, List.set_cons_succ]
                      refine wpAnyH_takeL (i := 24) (v := undef) rfl (by kernel_rfl) (by kernel_rfl) (by kernel_rfl) (fun _ _ _ h => h) (Or.inr ⟨by rfl, rfl⟩) (by assumption) ?_
                      try simp only [Act.put, List.setIfInBounds_toArray, List.set_cons_zero, List.set_cons_succ]
                      refine wpAnyH_takeL (i := 25) (v := undef) rfl (by kernel_rfl) (by kernel_rfl) (by kernel_rfl) (fun _ _ _ h => h) (Or.inr ⟨by rfl, rfl⟩) (by assumption) ?_
                      try simp only [Act.put, List.setIfInBounds_toArray, List.set_cons_zero, List.set_cons_succ]
                      refine wpAnyH_takeL (i := 26) (v := undef) rfl (by kernel_rfl) (by kernel_rfl) (by kernel_rfl) (fun _ _ _ h => h) (Or.inr ⟨by rfl, rfl⟩) (by assumption) ?_
                      try simp only [Act.put, List.setIfInBounds_toArray, List.set_cons_zero, List.set_cons_succ]
                      refine wpAnyH_takeL (i := 27) (v := undef) rfl (by kernel_rfl) (by kernel_rfl) (by kernel_rfl) (fun _ _ _ h => h) (Or.inr ⟨by rfl, rfl⟩) (by assumption) ?_
                      try simp only [Act.put, List.setIfInBounds_toArray, List.set_cons_zero, List.set_cons_succ]
                      refine wpAnyH_takeL (i := 28) (v := undef) rfl (by kernel_rfl) (by kernel_rfl) (by kernel_rfl) (fun _ _ _ h => h) (Or.inr ⟨by rfl, rfl⟩) (by assumption) ?_
                      try simp only [Act.put, List.setIfInBounds_toArray, List.set_cons_zero, List.set_cons_succ]
                      refine wpAnyH_takeL (i := 29) (v := undef) rfl (by kernel_rfl) (by kernel_rfl) (by kernel_rfl) (fun _ _ _ h => h) (Or.inr ⟨by rfl, rfl⟩) (by assumption) ?_
                      try simp only [Act.put, List.setIfInBounds_toArray, List.set_cons_zero, List.set_cons_succ]
                      refine wpAnyH_takeL (i := 30) (v := undef) rfl (by kernel_rfl) (by kernel_rfl) (by kernel_rfl) (fun _ _ _ h => h) (Or.inr ⟨by rfl, rfl⟩) (by assumption) ?_
                      try simp only [Act.put, List.setIfInBounds_toArray, List.set_cons_zero, List.set_cons_succ]
                      refine wpAnyH_takeL (i := 31) (v := undef) rfl (by kernel_rfl) (by kernel_rfl) (by kernel_rfl) (fun _ _ _ h => h) (Or.inr ⟨by rfl, rfl⟩) (by assumption) ?_
                      try simp only [Act.put, List.setIfInBounds_toArray, List.set_cons_zero, List.set_cons_succ]
                      refine wpAnyH_takeL (i := 32) (v := ?vhy29) rfl (by kernel_rfl) (by kernel_rfl) (by kernel_rfl) (fun _ _ _ h => h) (Or.inl ⟨by rfl, ?hy29⟩) (by assumption) ?rhy29
                      case hy29 => ((intro w hSw; (try dsimp only at hSw); go_simp); try with_reducible rfl)
                      try simp only [Act.put, List.setIfInBounds_toArray, List.set_cons_zero, List.set_cons_succ]
                      refine wpAnyH_takeL (i := 33) (v := ?vhy30) rfl (by kernel_rfl) (by kernel_rfl) (by kernel_rfl) (fun _ _ _ h => h) (Or.inl ⟨by rfl, ?hy30⟩) (by assumption) ?rhy30
                      case hy30 => ((intro w hSw; (try dsimp only at hSw); go_simp); try with_reducible rfl)
                      try simp only [Act.put, List.setIfInBounds_toArray, List.set_cons_zero, List.set_cons_succ]
                      refine wpAnyH_takeL (i := 34) (v := ?vhy31) rfl (by kernel_rfl) (by kernel_rfl) (by kernel_rfl) (fun _ _ _ h => h) (Or.inl ⟨by rfl, ?hy31⟩) (by assumption) ?rhy31
                      case hy31 => ((intro w hSw; (try dsimp only at hSw); go_simp); try with_reducible rfl)
                      try simp only [Act.put, List.setIfInBounds_toArray, List.set_cons_zero, List.set_cons_succ]
                      refine wpAnyH_takeL (i := 35) (v := ?vhy32) rfl (by kernel_rfl) (by kernel_rfl) (by kernel_rfl) (fun _ _ _ h => h) (Or.inl ⟨by rfl, ?hy32⟩) (by assumption) ?rhy32
                      case hy32 => ((intro w hSw; (try dsimp only at hSw); go_simp); try with_reducible rfl)
                      try simp only [Act.put, List.setIfInBounds_toArray, List.set_cons_zero, List.set_cons_succ]
                      refine wpAnyH_done (by kernel_rfl) ?_ _
                      refine NoPanic.normal ?_
                      clear hHeld
                      cases q0 with
                      | true =>
                        go_wp2_with fail
                        refine (hHa.out _ hbw).mono ?_
                        rintro e w9 ⟨rfl, hb3⟩
                        replace hbw := hbw.trans (hb3.mono hbw.size)
                        clear hb3
                        replace hbf := Lib.hid hbw
                        clear hbw
                        go_wp2
                        exact ⟨⟨b, by simp, hb1'.2, by rw [hbl.out]; rfl, hbf.out⟩, by simp [intOf]; have := hb.out; omega⟩
                      | false =>
                        go_wp2_with fail
                        refine (hHa.out _ hbw).mono ?_
                        rintro e w9 ⟨rfl, hb3⟩
                        replace hbw := hbw.trans (hb3.mono hbw.size)
                        clear hb3
                        replace hbf := Lib.hid hbw
                        clear hbw
                        go_wp2
                        exact ⟨⟨b, by simp, hb1'.2, by rw [hbl.out]; rfl, hbf.out⟩, by simp [intOf]; have := hb.out; omega⟩
                    | true =>
                      cases d with
                      | true =>
                        refine wp_region_noPanic ?_
                        refine wp_region_held_drew (S := fun W => (W.cell? ⟨w.heap.size + 1, b, none⟩ = some (.bool true) ∧ W.cell? ⟨w.heap.size + 1, a, none⟩ = some (.bool true)) ∧ W.cell? ⟨w.heap.size, b, none⟩ = some (.int .i64 cb) ∧ W.cell? ⟨w.heap.size, a, none⟩ = some (.int .i64 ca)) (by kernel_rfl) (hS.out _ hbw.drew) (fun hHeld => ?_)
                        replace hbw := hbw.drew
                        refine wpAnyH_takeL (i := 0) (v := ?vhy33) rfl (by kernel_rfl) (by kernel_rfl) (by kernel_rfl) (fun _ _ _ h => h) (Or.inl ⟨by rfl, ?hy33⟩) (by assumption) ?rhy33
                        case hy33 => ((intro w hSw; (try dsimp only at hSw); go_simp); try with_reducible rfl)
                        try simp only [Act.put, List.setIfInBounds_toArray, List.set_cons_zero, List.set_cons_succ]
                        refine wpAnyH_takeL (i := 1) (v := ?vhy34) rfl (by kernel_rfl) (by kernel_rfl) (by kernel_rfl) (fun _ _ _ h => h) (Or.inl ⟨by rfl, ?hy34⟩) (by assumption) ?rhy34
                        case hy34 => ((intro w hSw; (try dsimp only at hSw); go_simp); try with_reducible rfl)
                        try simp only [Act.put, List.setIfInBounds_toArray, List.set_cons_zero, List.set_cons_succ]
                        refine wpAnyH_ready (rs := [2]) (by kernel_rfl) (by simp) ?_
                        refine AllReadyH.consL (i := 2) rfl (fun K hK => ?_) AllReadyH.nil
                        go_simp
                        refine (hHb.out _ hbw).mono ?_
                        rintro e w8 ⟨rfl, hb3⟩
                        replace hbw := hbw.trans (hb3.mono hbw.size)
                        refine hK.out _ _ (hS.out _ hbw) (fun hHeld => ?_)
                        clear hK hb3
                        refine wpAnyH_takeL (i := 3) (v := ?vhy35) rfl (by kernel_rfl) (by kernel_rfl) (by kernel_rfl) (fun _ _ _ h => h) (Or.inl ⟨by rfl, ?hy35⟩) (by assumption) ?rhy35
                        case hy35 => ((intro w hSw; (try dsimp only at hSw); go_simp); try with_reducible rfl)
                        try simp only [Act.put, List.setIfInBounds_toArray, List.set_cons_zero, List.set_cons_succ]
                        refine wpAnyH_takeL (i := 4) (v := ?vhy36) rfl (by kernel_rfl) (by kernel_rfl) (by kernel_rfl) (fun _ _ _ h => h) (Or.inl ⟨by rfl, ?hy36⟩) (by assumption) ?rhy36
                        case hy36 => ((intro w hSw; (try dsimp only at hSw); go_simp); try with_reducible rfl)
                        try simp only [Act.put, List.setIfInBounds_toArray, List.set_cons_zero, List.set_cons_succ]
                        refine wpAnyH_takeL (i := 5) (v := ?vhy37) rfl (by kernel_rfl) (by kernel_rfl) (by kernel_rfl) (fun _ _ _ h => h) (Or.inl ⟨by rfl, ?hy37⟩) (by assumption) ?rhy37
                        case hy37 => ((intro w hSw; (try dsimp only at hSw); go_simp); try with_reducible rfl)
                        try simp only [Act.put, List.setIfInBounds_toArray, List.set_cons_zero, List.set_cons_succ]
                        refine wpAnyH_takeL (i := 6) (v := ?vhy38) rfl (by kernel_rfl) (by kernel_rfl) (by kernel_rfl) (fun _ _ _ h => h) (Or.inl ⟨by rfl, ?hy38⟩) (by assumption) ?rhy38
                        case hy38 => ((intro w hSw; (try dsimp only at hSw); go_simp); try with_reducible rfl)
                        try simp only [Act.put, List.setIfInBounds_toArray, List.set_cons_zero, List.set_cons_succ]
                        refine wpAnyH_takeL (i := 7) (v := ?vhy39) rfl (by kernel_rfl) (by kernel_rfl) (by kernel_rfl) (fun _ _ _ h => h) (Or.inl ⟨by rfl, ?hy39⟩) (by assumption) ?rhy39
                        case hy39 => ((intro w hSw; (try dsimp only at hSw); go_simp); try with_reducible rfl)
                        try simp only [Act.put, List.setIfInBounds_toArray, List.set_cons_zero, List.set_cons_succ]
                        refine wpAnyH_takeL (i := 8) (v := ?vhy40) rfl (by kernel_rfl) (by kernel_rfl) (by kernel_rfl) (fun _ _ _ h => h) (Or.inl ⟨by rfl, ?hy40⟩) (by assumption) ?rhy40
                        case hy40 => ((intro w hSw; (try dsimp only at hSw); go_simp); try with_reducible rfl)
                        try simp only [Act.put, List.setIfInBounds_toArray, List.set_cons_zero, List.set_cons_succ]
                        refine wpAnyH_takeL (i := 9) (v := ?vhy41) rfl (by kernel_rfl) (by kernel_rfl) (by kernel_rfl) (fun _ _ _ h => h) (Or.inl ⟨by rfl, ?hy41⟩) (by assumption) ?rhy41
                        case hy41 => ((intro w hSw; (try dsimp only at hSw); go_simp); try with_reducible rfl)
                        try simp only [Act.put, List.setIfInBounds_toArray, List.set_cons_zero, List.set_cons_succ]
                        refine wpAnyH_takeL (i := 10) (v := ?vhy42) rfl (by kernel_rfl) (by kernel_rfl) (by kernel_rfl) (fun _ _ _ h => h) (Or.inl ⟨by rfl, ?hy42⟩) (by assumption) ?rhy42
                        case hy42 => ((intro w hSw; (try dsimp only at hSw); go_simp); try with_reducible rfl)
                        try simp only [Act.put, List.setIfInBounds_toArray, List.set_cons_zero, List.set_cons_succ]
                        refine wpAnyH_takeL (i := 11) (v := ?vhy43) rfl (by kernel_rfl) (by kernel_rfl) (by kernel_rfl) (fun _ _ _ h => h) (Or.inl ⟨by rfl, ?hy43⟩) (by assumption) ?rhy43
                        case hy43 => ((intro w hSw; (try dsimp only at hSw); go_simp); try with_reducible rfl)
                        try simp only [Act.put, List.setIfInBounds_toArray, List.set_cons_zero, List.set_cons_succ]
                        refine wpAnyH_takeL (i := 12) (v := ?vhy44) rfl (by kernel_rfl) (by kernel_rfl) (by kernel_rfl) (fun _ _ _ h => h) (Or.inl ⟨by rfl, ?hy44⟩) (by assumption) ?rhy44
                        case hy44 => ((intro w hSw; (try dsimp only at hSw); go_simp); try with_reducible rfl)
                        try simp only [Act.put, List.setIfInBounds_toArray, List.set_cons_zero, List.set_cons_succ]
                        refine wpAnyH_takeL (i := 13) (v := ?vhy45) rfl (by kernel_rfl) (by kernel_rfl) (by kernel_rfl) (fun _ _ _ h => h) (Or.inl ⟨by rfl, ?hy45⟩) (by assumption) ?rhy45
                        case hy45 => ((intro w hSw; (try dsimp only at hSw); go_simp); try with_reducible rfl)
                        try simp only [Act.put, List.setIfInBounds_toArray, List.set_cons_zero, List.set_cons_succ]
                        refine wpAnyH_takeL (i := 14) (v := ?vhy46) rfl (by kernel_rfl) (by kernel_rfl) (by kernel_rfl) (fun _ _ _ h => h) (Or.inl ⟨by rfl, ?hy46⟩) (by assumption) ?rhy46
                        case hy46 => ((intro w hSw; (try dsimp only at hSw); go_simp); try with_reducible rfl)
                        try simp only [Act.put, List.setIfInBounds_toArray, List.set_cons_zero, List.set_cons_succ]
                        refine wpAnyH_takeL (i := 15) (v := ?vhy47) rfl (by kernel_rfl) (by kernel_rfl) (by kernel_rfl) (fun _ _ _ h => h) (Or.inl ⟨by rfl, ?hy47⟩) (by assumption) ?rhy47
                        case hy47 => ((intro w hSw; (try dsimp only at hSw); go_simp); try with_reducible rfl)
                        try simp only [Act.put, List.setIfInBounds_toArray, List.set_cons_zero, List.set_cons_succ]
                        refine wpAnyH_takeL (i := 16) (v := ?vhy48) rfl (by kernel_rfl) (by kernel_rfl) (by kernel_rfl) (fun _ _ _ h => h) (Or.inl ⟨by rfl, ?hy48⟩) (by assumption) ?rhy48
                        case hy48 => ((intro w hSw; (try dsimp only at hSw); go_simp); try with_reducible rfl)
                        try simp only [Act.put, List.setIfInBounds_toArray, List.set_cons_zero, List.set_cons_succ]
                        refine wpAnyH_takeL (i := 17) (v := ?vhy49) rfl (by kernel_rfl) (by kernel_rfl) (by kernel_rfl) (fun _ _ _ h => h) (Or.inl ⟨by rfl, ?hy49⟩) (by assumption) ?rhy49
                        case hy49 => ((intro w hSw; (try dsimp only at hSw); go_simp); try with_reducible rfl)
                        try simp only [Act.put, List.setIfInBounds_toArray, List.set_cons_zero, List.set_cons_succ]
                        refine wpAnyH_takeL (i := 18) (v := ?vhy50) rfl (by kernel_rfl) (by kernel_rfl) (by kernel_rfl) (fun _ _ _ h => h) (Or.inl ⟨by rfl, ?hy50⟩) (by assumption) ?rhy50
                        case hy50 => ((intro w hSw; (try dsimp only at hSw); go_simp); try with_reducible rfl)
                        try simp only [Act.put, List.setIfInBounds_toArray, List.set_cons_zero, List.set_cons_succ]
                        refine wpAnyH_takeL (i := 19) (v := ?vhy51) rfl (by kernel_rfl) (by kernel_rfl) (by kernel_rfl) (fun _ _ _ h => h) (Or.inl ⟨by rfl, ?hy51⟩) (by assumption) ?rhy51
                        case hy51 => ((intro w hSw; (try dsimp only at hSw); go_simp); try with_reducible rfl)
                        try simp only [Act.put, List.setIfInBounds_toArray, List.set_cons_zero, List.set_cons_succ]
                        refine wpAnyH_takeL (i := 20) (v := ?vhy52) rfl (by kernel_rfl) (by kernel_rfl) (by kernel_rfl) (fun _ _ _ h => h) (Or.inl ⟨by rfl, ?hy52⟩) (by assumption) ?rhy52
                        case hy52 => ((intro w hSw; (try dsimp only at hSw); go_simp); try with_reducible rfl)
                        try simp only [Act.put, List.setIfInBounds_toArray, List.set_cons_zero, List.set_cons_succ]
                        refine wpAnyH_takeL (i := 21) (v := ?vhy53) rfl (by kernel_rfl) (by kernel_rfl) (by kernel_rfl) (fun _ _ _ h => h) (Or.inl ⟨by rfl, ?hy53⟩) (by assumption) ?rhy53
                        case hy53 => ((intro w hSw; (try dsimp only at hSw); go_simp); try with_reducible rfl)
                        try simp only [Act.put, List.setIfInBounds_toArray, List.set_cons_zero, List.set_cons_succ]
                        refine wpAnyH_takeL (i := 22) (v := ?vhy54) rfl (by kernel_rfl) (by kernel_rfl) (by kernel_rfl) (fun _ _ _ h => h) (Or.inl ⟨by rfl, ?hy54⟩) (by assumption) ?rhy54
                        case hy54 => ((intro w hSw; (try dsimp only at hSw); go_simp); try with_reducible rfl)
                        try simp only [Act.put, List.setIfInBounds_toArray, List.set_cons_zero, List.set_cons_succ]
                        refine wpAnyH_takeL (i := 23) (v := ?vhy55) rfl (by kernel_rfl) (by kernel_rfl) (by kernel_rfl) (fun _ _ _ h => h) (Or.inl ⟨by rfl, ?hy55⟩) (by assumption) ?rhy55
                        case hy55 => ((intro w hSw; (try dsimp only at hSw); go_simp); try with_reducible rfl)
                        try simp only [Act.put, List.setIfInBounds_toArray, List.set_cons_zero, List.set_cons_succ]
                        refine wpAnyH_takeL (i := 24) (v := ?vhy56) rfl (by kernel_rfl) (by kernel_rfl) (by kernel_rfl) (fun _ _ _ h => h) (Or.inl ⟨by rfl, ?hy56⟩) (by assumption) ?rhy56
                        case hy56 => ((intro w hSw; (try dsimp only at hSw); go_simp); try with_reducible rfl)
                        try simp only [Act.put, List.setIfInBounds_toArray, List.set_cons_zero, List.set_cons_succ]
                        refine wpAnyH_takeL (i := 25) (v := ?vhy57) rfl (by kernel_rfl) (by kernel_rfl) (by kernel_rfl) (fun _ _ _ h => h) (Or.inl ⟨by rfl, ?hy57⟩) (by assumption) ?rhy57
                        case hy57 => ((intro w hSw; (try dsimp only at hSw); go_simp); try with_reducible rfl)
                        try simp only [Act.put, List.setIfInBounds_toArray, List.set_cons_zero, List.set_cons_succ]
                        refine wpAnyH_takeL (i := 26) (v := ?vhy58) rfl (by kernel_rfl) (by kernel_rfl) (by kernel_rfl) (fun _ _ _ h => h) (Or.inl ⟨by rfl, ?hy58⟩) (by assumption) ?rhy58
                        case hy58 => ((intro w hSw; (try dsimp only at hSw); go_simp); try with_reducible rfl)
                        try simp only [Act.put, List.setIfInBounds_toArray, List.set_cons_zero, List.set_cons_succ]
                        refine wpAnyH_takeL (i := 27) (v := ?vhy59) rfl (by kernel_rfl) (by kernel_rfl) (by kernel_rfl) (fun _ _ _ h => h) (Or.inl ⟨by rfl, ?hy59⟩) (by assumption) ?rhy59
                        case hy59 => ((intro w hSw; (try dsimp only at hSw); go_simp); try with_reducible rfl)
                        try simp only [Act.put, List.setIfInBounds_toArray, List.set_cons_zero, List.set_cons_succ]
                        refine wpAnyH_takeL (i := 28) (v := ?vhy60) rfl (by kernel_rfl) (by kernel_rfl) (by kernel_rfl) (fun _ _ _ h => h) (Or.inl ⟨by rfl, ?hy60⟩) (by assumption) ?rhy60
                        case hy60 => ((intro w hSw; (try dsimp only at hSw); go_simp); try with_reducible rfl)
                        try simp only [Act.put, List.setIfInBounds_toArray, List.set_cons_zero, List.set_cons_succ]
                        refine wpAnyH_takeL (i := 29) (v := ?vhy61) rfl (by kernel_rfl) (by kernel_rfl) (by kernel_rfl) (fun _ _ _ h => h) (Or.inl ⟨by rfl, ?hy61⟩) (by assumption) ?rhy61
                        case hy61 => ((intro w hSw; (try dsimp only at hSw); go_simp); try with_reducible rfl)
                        try simp only [Act.put, List.setIfInBounds_toArray, List.set_cons_zero, List.set_cons_succ]
                        refine wpAnyH_takeL (i := 30) (v := ?vhy62) rfl (by kernel_rfl) (by kernel_rfl) (by kernel_rfl) (fun _ _ _ h => h) (Or.inl ⟨by rfl, ?hy62⟩) (by assumption) ?rhy62
                        case hy62 => ((intro w hSw; (try dsimp only at hSw); go_simp); try with_reducible rfl)
                        try simp only [Act.put, List.setIfInBounds_toArray, List.set_cons_zero, List.set_cons_succ]
                        refine wpAnyH_takeL (i := 31) (v := ?vhy63) rfl (by kernel_rfl) (by kernel_rfl) (by kernel_rfl) (fun _ _ _ h => h) (Or.inl ⟨by rfl, ?hy63⟩) (by assumption) ?rhy63
                        case hy63 => ((intro w hSw; (try dsimp only at hSw); go_simp); try with_reducible rfl)
                        try simp only [Act.put, List.setIfInBounds_toArray, List.set_cons_zero, List.set_cons_succ]
                        refine wpAnyH_takeL (i := 32) (v := ?vhy64) rfl (by kernel_rfl) (by kernel_rfl) (by kernel_rfl) (fun _ _ _ h => h) (Or.inl ⟨by rfl, ?hy64⟩) (by assumption) ?rhy64
                        case hy64 => ((intro w hSw; (try dsimp only at hSw); go_simp); try with_reducible rfl)
                        try simp only [Act.put, List.setIfInBounds_toArray, List.set_cons_zero, List.set_cons_succ]
                        refine wpAnyH_takeL (i := 33) (v := ?vhy65) rfl (by kernel_rfl) (by kernel_rfl) (by kernel_rfl) (fun _ _ _ h => h) (Or.inl ⟨by rfl, ?hy65⟩) (by assumption) ?rhy65
                        case hy65 => ((intro w hSw; (try dsimp only at hSw); go_simp); try with_reducible rfl)
                        try simp only [Act.put, List.setIfInBounds_toArray, List.set_cons_zero, List.set_cons_succ]
                        refine wpAnyH_takeL (i := 34) (v := ?vhy66) rfl (by kernel_rfl) (by kernel_rfl) (by kernel_rfl) (fun _ _ _ h => h) (Or.inl ⟨by rfl, ?hy66⟩) (by assumption) ?rhy66
                        case hy66 => ((intro w hSw; (try dsimp only at hSw); go_simp); try with_reducible rfl)
                        try simp only [Act.put, List.setIfInBounds_toArray, List.set_cons_zero, List.set_cons_succ]
                        refine wpAnyH_takeL (i := 35) (v := ?vhy67) rfl (by kernel_rfl) (by kernel_rfl) (by kernel_rfl) (fun _ _ _ h => h) (Or.inl ⟨by rfl, ?hy67⟩) (by assumption) ?rhy67
                        case hy67 => ((intro w hSw; (try dsimp only at hSw); go_simp); try with_reducible rfl)
                        try simp only [Act.put, List.setIfInBounds_toArray, List.set_cons_zero, List.set_cons_succ]
                        refine wpAnyH_done (by kernel_rfl) ?_ _
                        refine NoPanic.normal ?_
                        clear hHeld
                        cases q0 with
                        | true =>
                          go_wp2_with fail
                          refine (hHa.out _ hbw).mono ?_
                          rintro e w9 ⟨rfl, hb3⟩
                          replace hbw := hbw.trans (hb3.mono hbw.size)
                          clear hb3
                          replace hbf := Lib.hid hbw
                          clear hbw
                          go_wp2
                          exact ⟨⟨b, by simp, hb1'.2, by rw [hbl.out]; rfl, hbf.out⟩, by simp [intOf]; have := hb.out; omega⟩
                        | false =>
                          go_wp2_with fail
                          refine (hHa.out _ hbw).mono ?_
                          rintro e w9 ⟨rfl, hb3⟩
                          replace hbw := hbw.trans (hb3.mono hbw.size)
                          clear hb3
                          replace hbf := Lib.hid hbw
                          clear hbw
                          go_wp2
                          exact ⟨⟨b, by simp, hb1'.2, by rw [hbl.out]; rfl, hbf.out⟩, by simp [intOf]; have := hb.out; omega⟩
                      | false =>
                        refine wp_region_noPanic ?_
                        refine wp_region_held_drew (S := fun W => (W.cell? ⟨w.heap.size + 1, b, none⟩ = some (.bool true) ∧ W.cell? ⟨w.heap.size + 1, a, none⟩ = some (.bool true)) ∧ W.cell? ⟨w.heap.size, b, none⟩ = some (.int .i64 cb) ∧ W.cell? ⟨w.heap.size, a, none⟩ = some (.int .i64 ca)) (by kernel_rfl) (hS.out _ hbw.drew) (fun hHeld => ?_)
                        replace hbw := hbw.drew
                        refine wpAnyH_takeL (i := 0) (v := ?vhy68) rfl (by kernel_rfl) (by kernel_rfl) (by kernel_rfl) (fun _ _ _ h => h) (Or.inl ⟨by rfl, ?hy68⟩) (by assumption) ?rhy68
                        case hy68 => ((intro w hSw; (try dsimp only at hSw); go_simp); try with_reducible rfl)
                        try simp only [Act.put, List.setIfInBounds_toArray, List.set_cons_zero, List.set_cons_succ]
                        refine wpAnyH_takeL (i := 1) (v := ?vhy69) rfl (by kernel_rfl) (by kernel_rfl) (by kernel_rfl) (fun _ _ _ h => h) (Or.inl ⟨by rfl, ?hy69⟩) (by assumption) ?rhy69
                        case hy69 => ((intro w hSw; (try dsimp only at hSw); go_simp); try with_reducible rfl)
                        try simp only [Act.put, List.setIfInBounds_toArray, List.set_cons_zero, List.set_cons_succ]
                        refine wpAnyH_ready (rs := [2]) (by kernel_rfl) (by simp) ?_
                        refine AllReadyH.consL (i := 2) rfl (fun K hK => ?_) AllReadyH.nil
                        go_simp
                        refine (hHb.out _ hbw).mono ?_
                        rintro e w8 ⟨rfl, hb3⟩
                        replace hbw := hbw.trans (hb3.mono hbw.size)
                        refine hK.out _ _ (hS.out _ hbw) (fun hHeld => ?_)
                        clear hK hb3
                        refine wpAnyH_takeL (i := 3) (v := ?vhy70) rfl (by kernel_rfl) (by kernel_rfl) (by kernel_rfl) (fun _ _ _ h => h) (Or.inl ⟨by rfl, ?hy70⟩) (by assumption) ?rhy70
                        case hy70 => ((intro w hSw; (try dsimp only at hSw); go_simp); try with_reducible rfl)
                        try simp only [Act.put, List.setIfInBounds_toArray, List.set_cons_zero, List.set_cons_succ]
                        refine wpAnyH_takeL (i := 4) (v := ?vhy71) rfl (by kernel_rfl) (by kernel_rfl) (by kernel_rfl) (fun _ _ _ h => h) (Or.inl ⟨by rfl, ?hy71⟩) (by assumption) ?rhy71
                        case hy71 => ((intro w hSw; (try dsimp only at hSw); go_simp); try with_reducible rfl)
                        try simp only [Act.put, List.setIfInBounds_toArray, List.set_cons_zero, List.set_cons_succ]
                        refine wpAnyH_takeL (i := 5) (v := ?vhy72) rfl (by kernel_rfl) (by kernel_rfl) (by kernel_rfl) (fun _ _ _ h => h) (Or.inl ⟨by rfl, ?hy72⟩) (by assumption) ?rhy72
                        case hy72 => ((intro w hSw; (try dsimp only at hSw); go_simp); try with_reducible rfl)
                        try simp only [Act.put, List.setIfInBounds_toArray, List.set_cons_zero, List.set_cons_succ]
                        refine wpAnyH_takeL (i := 6) (v := ?vhy73) rfl (by kernel_rfl) (by kernel_rfl) (by kernel_rfl) (fun _ _ _ h => h) (Or.inl ⟨by rfl, ?hy73⟩) (by assumption) ?rhy73
                        case hy73 => ((intro w hSw; (try dsimp only at hSw); go_simp); try with_reducible rfl)
                        try simp only [Act.put, List.setIfInBounds_toArray, List.set_cons_zero, List.set_cons_succ]
                        refine wpAnyH_takeL (i := 7) (v := ?vhy74) rfl (by kernel_rfl) (by kernel_rfl) (by kernel_rfl) (fun _ _ _ h => h) (Or.inl ⟨by rfl, ?hy74⟩) (by assumption) ?rhy74
                        case hy74 => ((intro w hSw; (try dsimp only at hSw); go_simp); try with_reducible rfl)
                        try simp only [Act.put, List.setIfInBounds_toArray, List.set_cons_zero, List.set_cons_succ]
                        refine wpAnyH_takeL (i := 8) (v := ?vhy75) rfl (by kernel_rfl) (by kernel_rfl) (by kernel_rfl) (fun _ _ _ h => h) (Or.inl ⟨by rfl, ?hy75⟩) (by assumption) ?rhy75
                        case hy75 => ((intro w hSw; (try dsimp only at hSw); go_simp); try with_reducible rfl)
                        try simp only [Act.put, List.setIfInBounds_toArray, List.set_cons_zero, List.set_cons_succ]
                        refine wpAnyH_takeL (i := 9) (v := ?vhy76) rfl (by kernel_rfl) (by kernel_rfl) (by kernel_rfl) (fun _ _ _ h => h) (Or.inl ⟨by rfl, ?hy76⟩) (by assumption) ?rhy76
                        case hy76 => ((intro w hSw; (try dsimp only at hSw); go_simp); try with_reducible rfl)
                        try simp only [Act.put, List.setIfInBounds_toArray, List.set_cons_zero, List.set_cons_succ]
                        refine wpAnyH_takeL (i := 10) (v := ?vhy77) rfl (by kernel_rfl) (by kernel_rfl) (by kernel_rfl) (fun _ _ _ h => h) (Or.inl ⟨by rfl, ?hy77⟩) (by assumption) ?rhy77
                        case hy77 => ((intro w hSw; (try dsimp only at hSw); go_simp); try with_reducible rfl)
                        try simp only [Act.put, List.setIfInBounds_toArray, List.set_cons_zero, List.set_cons_succ]
                        refine wpAnyH_takeL (i := 11) (v := ?vhy78) rfl (by kernel_rfl) (by kernel_rfl) (by kernel_rfl) (fun _ _ _ h => h) (Or.inl ⟨by rfl, ?hy78⟩) (by assumption) ?rhy78
                        case hy78 => ((intro w hSw; (try dsimp only at hSw); go_simp); try with_reducible rfl)
                        try simp only [Act.put, List.setIfInBounds_toArray, List.set_cons_zero, List.set_cons_succ]
                        refine wpAnyH_takeL (i := 12) (v := ?vhy79) rfl (by kernel_rfl) (by kernel_rfl) (by kernel_rfl) (fun _ _ _ h => h) (Or.inl ⟨by rfl, ?hy79⟩) (by assumption) ?rhy79
                        case hy79 => ((intro w hSw; (try dsimp only at hSw); go_simp); try with_reducible rfl)
                        try simp only [Act.put, List.setIfInBounds_toArray, List.set_cons_zero, List.set_cons_succ]
                        refine wpAnyH_takeL (i := 13) (v := ?vhy80) rfl (by kernel_rfl) (by kernel_rfl) (by kernel_rfl) (fun _ _ _ h => h) (Or.inl ⟨by rfl, ?hy80⟩) (by assumption) ?rhy80
                        case hy80 => ((intro w hSw; (try dsimp only at hSw); go_simp); try with_reducible rfl)
                        try simp only [Act.put, List.setIfInBounds_toArray, List.set_cons_zero, List.set_cons_succ]
                        refine wpAnyH_takeL (i := 14) (v := ?vhy81) rfl (by kernel_rfl) (by kernel_rfl) (by kernel_rfl) (fun _ _ _ h => h) (Or.inl ⟨by rfl, ?hy81⟩) (by assumption) ?rhy81
                        case hy81 => ((intro w hSw; (try dsimp only at hSw); go_simp); try with_reducible rfl)
                        try simp only [Act.put, List.setIfInBounds_toArray, List.set_cons_zero, List.set_cons_succ]
                        refine wpAnyH_takeL (i := 15) (v := ?vhy82) rfl (by kernel_rfl) (by kernel_rfl) (by kernel_rfl) (fun _ _ _ h => h) (Or.inl ⟨by rfl, ?hy82⟩) (by assumption) ?rhy82
                        case hy82 => ((intro w hSw; (try dsimp only at hSw); go_simp); try with_reducible rfl)
                        try simp only [Act.put, List.setIfInBounds_toArray, List.set_cons_zero, List.set_cons_succ]
                        refine wpAnyH_takeL (i := 16) (v := ?vhy83) rfl (by kernel_rfl) (by kernel_rfl) (by kernel_rfl) (fun _ _ _ h => h) (Or.inl ⟨by rfl, ?hy83⟩) (by assumption) ?rhy83
                        case hy83 => ((intro w hSw; (try dsimp only at hSw); go_simp); try with_reducible rfl)
                        try simp only [Act.put, List.setIfInBounds_toArray, List.set_cons_zero, List.set_cons_succ]
                        refine wpAnyH_takeL (i := 17) (v := ?vhy84) rfl (by kernel_rfl) (by kernel_rfl) (by kernel_rfl) (fun _ _ _ h => h) (Or.inl ⟨by rfl, ?hy84⟩) (by assumption) ?rhy84
                        case hy84 => ((intro w hSw; (try dsimp only at hSw); go_simp); try with_reducible rfl)
                        try simp only [Act.put, List.setIfInBounds_toArray, List.set_cons_zero, List.set_cons_succ]
                        refine wpAnyH_takeL (i := 18) (v := ?vhy85) rfl (by kernel_rfl) (by kernel_rfl) (by kernel_rfl) (fun _ _ _ h => h) (Or.inl ⟨by rfl, ?hy85⟩) (by assumption) ?rhy85
                        case hy85 => ((intro w hSw; (try dsimp only at hSw); go_simp); try with_reducible rfl)
                        try simp only [Act.put, List.setIfInBounds_toArray, List.set_cons_zero, List.set_cons_succ]
                        refine wpAnyH_takeL (i := 19) (v := ?vhy86) rfl (by kernel_rfl) (by kernel_rfl) (by kernel_rfl) (fun _ _ _ h => h) (Or.inl ⟨by rfl, ?hy86⟩) (by assumption) ?rhy86
                        case hy86 => ((intro w hSw; (try dsimp only at hSw); go_simp); try with_reducible rfl)
                        try simp only [Act.put, List.setIfInBounds_toArray, List.set_cons_zero, List.set_cons_succ]
                        refine wpAnyH_takeL (i := 20) (v := ?vhy87) rfl (by kernel_rfl) (by kernel_rfl) (by kernel_rfl) (fun _ _ _ h => h) (Or.inl ⟨by rfl, ?hy87⟩) (by assumption) ?rhy87
                        case hy87 => ((intro w hSw; (try dsimp only at hSw); go_simp); try with_reducible rfl)
                        try simp only [Act.put, List.setIfInBounds_toArray, List.set_cons_zero, List.set_cons_succ]
                        refine wpAnyH_takeL (i := 21) (v := ?vhy88) rfl (by kernel_rfl) (by kernel_rfl) (by kernel_rfl) (fun _ _ _ h => h) (Or.inl ⟨by rfl, ?hy88⟩) (by assumption) ?rhy88
                        case hy88 => ((intro w hSw; (try dsimp only at hSw); go_simp); try with_reducible rfl)
                        try simp only [Act.put, List.setIfInBounds_toArray, List.set_cons_zero, List.set_cons_succ]
                        refine wpAnyH_takeL (i := 22) (v := ?vhy89) rfl (by kernel_rfl) (by kernel_rfl) (by kernel_rfl) (fun _ _ _ h => h) (Or.inl ⟨by rfl, ?hy89⟩) (by assumption) ?rhy89
                        case hy89 => ((intro w hSw; (try dsimp only at hSw); go_simp); try with_reducible rfl)
                        try simp only [Act.put, List.setIfInBounds_toArray, List.set_cons_zero, List.set_cons_succ]
                        refine wpAnyH_takeL (i := 23) (v := ?vhy90) rfl (by kernel_rfl) (by kernel_rfl) (by kernel_rfl) (fun _ _ _ h => h) (Or.inl ⟨by rfl, ?hy90⟩) (by assumption) ?rhy90
                        case hy90 => ((intro w hSw; (try dsimp only at hSw); go_simp); try with_reducible rfl)
                        try simp only [Act.put, List.setIfInBounds_toArray, List.set_cons_zero, List.set_cons_succ]
                        refine wpAnyH_takeL (i := 24) (v := ?vhy91) rfl (by kernel_rfl) (by kernel_rfl) (by kernel_rfl) (fun _ _ _ h => h) (Or.inl ⟨by rfl, ?hy91⟩) (by assumption) ?rhy91
                        case hy91 => ((intro w hSw; (try dsimp only at hSw); go_simp); try with_reducible rfl)
                        try simp only [Act.put, List.setIfInBounds_toArray, List.set_cons_zero, List.set_cons_succ]
                        refine wpAnyH_takeL (i := 25) (v := ?vhy92) rfl (by kernel_rfl) (by kernel_rfl) (by kernel_rfl) (fun _ _ _ h => h) (Or.inl ⟨by rfl, ?hy92⟩) (by assumption) ?rhy92
                        case hy92 => ((intro w hSw; (try dsimp only at hSw); go_simp); try with_reducible rfl)
                        try simp only [Act.put, List.setIfInBounds_toArray, List.set_cons_zero, List.set_cons_succ]
                        refine wpAnyH_takeL (i := 26) (v := ?vhy93) rfl (by kernel_rfl) (by kernel_rfl) (by kernel_rfl) (fun _ _ _ h => h) (Or.inl ⟨by rfl, ?hy93⟩) (by assumption) ?rhy93
                        case hy93 => ((intro w hSw; (try dsimp only at hSw); go_simp); try with_reducible rfl)
                        try simp only [Act.put, List.setIfInBounds_toArray, List.set_cons_zero, List.set_cons_succ]
                        refine wpAnyH_takeL (i := 27) (v := ?vhy94) rfl (by kernel_rfl) (by kernel_rfl) (by kernel_rfl) (fun _ _ _ h => h) (Or.inl ⟨by rfl, ?hy94⟩) (by assumption) ?rhy94
                        case hy94 => ((intro w hSw; (try dsimp only at hSw); go_simp); try with_reducible rfl)
                        try simp only [Act.put, List.setIfInBounds_toArray, List.set_cons_zero, List.set_cons_succ]
                        refine wpAnyH_takeL (i := 28) (v := ?vhy95) rfl (by kernel_rfl) (by kernel_rfl) (by kernel_rfl) (fun _ _ _ h => h) (Or.inl ⟨by rfl, ?hy95⟩) (by assumption) ?rhy95
                        case hy95 => ((intro w hSw; (try dsimp only at hSw); go_simp); try with_reducible rfl)
                        try simp only [Act.put, List.setIfInBounds_toArray, List.set_cons_zero, List.set_cons_succ]
                        refine wpAnyH_takeL (i := 29) (v := ?vhy96) rfl (by kernel_rfl) (by kernel_rfl) (by kernel_rfl) (fun _ _ _ h => h) (Or.inl ⟨by rfl, ?hy96⟩) (by assumption) ?rhy96
                        case hy96 => ((intro w hSw; (try dsimp only at hSw); go_simp); try with_reducible rfl)
                        try simp only [Act.put, List.setIfInBounds_toArray, List.set_cons_zero, List.set_cons_succ]
                        refine wpAnyH_takeL (i := 30) (v := ?vhy97) rfl (by kernel_rfl) (by kernel_rfl) (by kernel_rfl) (fun _ _ _ h => h) (Or.inl ⟨by rfl, ?hy97⟩) (by assumption) ?rhy97
                        case hy97 => ((intro w hSw; (try dsimp only at hSw); go_simp); try with_reducible rfl)
                        try simp only [Act.put, List.setIfInBounds_toArray, List.set_cons_zero, List.set_cons_succ]
                        refine wpAnyH_takeL (i := 31) (v := ?vhy98) rfl (by kernel_rfl) (by kernel_rfl) (by kernel_rfl) (fun _ _ _ h => h) (Or.inl ⟨by rfl, ?hy98⟩) (by assumption) ?rhy98
                        case hy98 => ((intro w hSw; (try dsimp only at hSw); go_simp); try with_reducible rfl)
                        try simp only [Act.put, List.setIfInBounds_toArray, List.set_cons_zero, List.set_cons_succ]
                        refine wpAnyH_takeL (i := 32) (v := ?vhy99) rfl (by kernel_rfl) (by kernel_rfl) (by kernel_rfl) (fun _ _ _ h => h) (Or.inl ⟨by rfl, ?hy99⟩) (by assumption) ?rhy99
                        case hy99 => ((intro w hSw; (try dsimp only at hSw); go_simp); try with_reducible rfl)
                        try simp only [Act.put, List.setIfInBounds_toArray, List.set_cons_zero, List.set_cons_succ]
                        refine wpAnyH_takeL (i := 33) (v := ?vhy100) rfl (by kernel_rfl) (by kernel_rfl) (by kernel_rfl) (fun _ _ _ h => h) (Or.inl ⟨by rfl, ?hy100⟩) (by assumption) ?rhy100
                        case hy100 => ((intro w hSw; (try dsimp only at hSw); go_simp); try with_reducible rfl)
                        try simp only [Act.put, List.setIfInBounds_toArray, List.set_cons_zero, List.set_cons_succ]
                        refine wpAnyH_takeL (i := 34) (v := ?vhy101) rfl (by kernel_rfl) (by kernel_rfl) (by kernel_rfl) (fun _ _ _ h => h) (Or.inl ⟨by rfl, ?hy101⟩) (by assumption) ?rhy101
                        case hy101 => ((intro w hSw; (try dsimp only at hSw); go_simp); try with_reducible rfl)
                        try simp only [Act.put, List.setIfInBounds_toArray, List.set_cons_zero, List.set_cons_succ]
                        refine wpAnyH_takeL (i := 35) (v := ?vhy102) rfl (by kernel_rfl) (by kernel_rfl) (by kernel_rfl) (fun _ _ _ h => h) (Or.inl ⟨by rfl, ?hy102⟩) (by assumption) ?rhy102
                        case hy102 => ((intro w hSw; (try dsimp only at hSw); go_simp); try with_reducible rfl)
                        try simp only [Act.put, List.setIfInBounds_toArray, List.set_cons_zero, List.set_cons_succ]
                        refine wpAnyH_done (by kernel_rfl) ?_ _
                        refine NoPanic.normal ?_
                        clear hHeld
                        cases q0 with
                        | true =>
                          go_wp2_with fail
                          refine (hHa.out _ hbw).mono ?_
                          rintro e w9 ⟨rfl, hb3⟩
                          replace hbw := hbw.trans (hb3.mono hbw.size)
                          clear hb3
                          replace hbf := Lib.hid hbw
                          clear hbw
                          go_wp2
                          exact ⟨⟨b, by simp, hb1'.2, by rw [hbl.out]; rfl, hbf.out⟩, by simp [intOf]; have := hb.out; omega⟩
                        | false =>
                          go_wp2_with fail
                          refine (hHa.out _ hbw).mono ?_
                          rintro e w9 ⟨rfl, hb3⟩
                          replace hbw := hbw.trans (hb3.mono hbw.size)
                          clear hb3
                          replace hbf := Lib.hid hbw
                          clear hbw
                          go_wp2
                          exact ⟨⟨b, by simp, hb1'.2, by rw [hbl.out]; rfl, hbf.out⟩, by simp [intOf]; have := hb.out; omega⟩
                  | false =>
                    cases fa with
                    | true =>
                      refine wp_region_noPanic ?_
                      refine wp_region_held_drew (S := fun W => (W.cell? ⟨w.heap.size + 1, b, none⟩ = some (.bool false) ∧ W.cell? ⟨w.heap.size + 1, a, none⟩ = some (.bool true)) ∧ W.cell? ⟨w.heap.size, b, none⟩ = some (.int .i64 cb) ∧ W.cell? ⟨w.heap.size, a, none⟩ = some (.int .i64 ca)) (by kernel_rfl) (hS.out _ hbw.drew) (fun hHeld => ?_)
                      replace hbw := hbw.drew
                      refine wpAnyH_takeL (i := 0) (v := ?vhy103) rfl (by kernel_rfl) (by kernel_rfl) (by kernel_rfl) (fun _ _ _ h => h) (Or.inl ⟨by rfl, ?hy103⟩) (by assumption) ?rhy103
                      case hy103 => ((intro w hSw; (try dsimp only at hSw); go_simp); try with_reducible rfl)
                      try simp only [Act.put, List.setIfInBounds_toArray, List.set_cons_zero, List.set_cons_succ]
                      refine wpAnyH_takeL (i := 1) (v := ?vhy104) rfl (by kernel_rfl) (by kernel_rfl) (by kernel_rfl) (fun _ _ _ h => h) (Or.inl ⟨by rfl, ?hy104⟩) (by assumption) ?rhy104
                      case hy104 => ((intro w hSw; (try dsimp only at hSw); go_simp); try with_reducible rfl)
                      try simp only [Act.put, List.setIfInBounds_toArray, List.set_cons_zero, List.set_cons_succ]
                      refine wpAnyH_ready (rs := [2]) (by kernel_rfl) (by simp) ?_
                      refine AllReadyH.consL (i := 2) rfl (fun K hK => ?_) AllReadyH.nil
                      go_simp
                      refine (hHb.out _ hbw).mono ?_
                      rintro e w8 ⟨rfl, hb3⟩
                      replace hbw := hbw.trans (hb3.mono hbw.size)
                      refine hK.out _ _ (hS.out _ hbw) (fun hHeld => ?_)
                      clear hK hb3
                      refine wpAnyH_takeL (i := 3) (v := ?vhy105) rfl (by kernel_rfl) (by kernel_rfl) (by kernel_rfl) (fun _ _ _ h => h) (Or.inl ⟨by rfl, ?hy105⟩) (by assumption) ?rhy105
                      case hy105 => ((intro w hSw; (try dsimp only at hSw); go_simp); try with_reducible rfl)
                      try simp only [Act.put, List.setIfInBounds_toArray, List.set_cons_zero, List.set_cons_succ]
                      refine wpAnyH_takeL (i := 4) (v := ?vhy106) rfl (by kernel_rfl) (by kernel_rfl) (by kernel_rfl) (fun _ _ _ h => h) (Or.inl ⟨by rfl, ?hy106⟩) (by assumption) ?rhy106
                      case hy106 => ((intro w hSw; (try dsimp only at hSw); go_simp); try with_reducible rfl)
                      try simp only [Act.put, List.setIfInBounds_toArray, List.set_cons_zero, List.set_cons_succ]
                      refine wpAnyH_takeL (i := 5) (v := ?vhy107) rfl (by kernel_rfl) (by kernel_rfl) (by kernel_rfl) (fun _ _ _ h => h) (Or.inl ⟨by rfl, ?hy107⟩) (by assumption) ?rhy107
                      case hy107 => ((intro w hSw; (try dsimp only at hSw); go_simp); try with_reducible rfl)
                      try simp only [Act.put, List.setIfInBounds_toArray, List.set_cons_zero, List.set_cons_succ]
                      refine wpAnyH_takeL (i := 6) (v := ?vhy108) rfl (by kernel_rfl) (by kernel_rfl) (by kernel_rfl) (fun _ _ _ h => h) (Or.inl ⟨by rfl, ?hy108⟩) (by assumption) ?rhy108
                      case hy108 => ((intro w hSw; (try dsimp only at hSw); go_simp); try with_reducible rfl)
                      try simp only [Act.put, List.setIfInBounds_toArray, List.set_cons_zero, List.set_cons_succ]
                      refine wpAnyH_takeL (i := 7) (v := ?vhy109) rfl (by kernel_rfl) (by kernel_rfl) (by kernel_rfl) (fun _ _ _ h => h) (Or.inl ⟨by rfl, ?hy109⟩) (by assumption) ?rhy109
                      case hy109 => ((intro w hSw; (try dsimp only at hSw); go_simp); try with_reducible rfl)
                      try simp only [Act.put, List.setIfInBounds_toArray, List.set_cons_zero, List.set_cons_succ]
                      refine wpAnyH_takeL (i := 8) (v := ?vhy110) rfl (by kernel_rfl) (by kernel_rfl) (by kernel_rfl) (fun _ _ _ h => h) (Or.inl ⟨by rfl, ?hy110⟩) (by assumption) ?rhy110
                      case hy110 => ((intro w hSw; (try dsimp only at hSw); go_simp); try with_reducible rfl)
                      try simp only [Act.put, List.setIfInBounds_toArray, List.set_cons_zero, List.set_cons_succ]
                      refine wpAnyH_takeL (i := 9) (v := ?vhy111) rfl (by kernel_rfl) (by kernel_rfl) (by kernel_rfl) (fun _ _ _ h => h) (Or.inl ⟨by rfl, ?hy111⟩) (by assumption) ?rhy111
                      case hy111 => ((intro w hSw; (try dsimp only at hSw); go_simp); try with_reducible rfl)
                      try simp only [Act.put, List.setIfInBounds_toArray, List.set_cons_zero, List.set_cons_succ]
                      refine wpAnyH_takeL (i := 10) (v := undef) rfl (by kernel_rfl) (by kernel_rfl) (by kernel_rfl) (fun _ _ _ h => h) (Or.inr ⟨by rfl, rfl⟩) (by assumption) ?_
                      try simp only [Act.put, List.setIfInBounds_toArray, List.set_cons_zero, List.set_cons_succ]
                      refine wpAnyH_takeL (i := 11) (v := undef) rfl (by kernel_rfl) (by kernel_rfl) (by kernel_rfl) (fun _ _ _ h => h) (Or.inr ⟨by rfl, rfl⟩) (by assumption) ?_
                      try simp only [Act.put, List.setIfInBounds_toArray, List.set_cons_zero, List.set_cons_succ]
                      refine wpAnyH_takeL (i := 12) (v := undef) rfl (by kernel_rfl) (by kernel_rfl) (by kernel_rfl) (fun _ _ _ h => h) (Or.inr ⟨by rfl, rfl⟩) (by assumption) ?_
                      try simp only [Act.put, List.setIfInBounds_toArray, List.set_cons_zero, List.set_cons_succ]
                      refine wpAnyH_takeL (i := 13) (v := undef) rfl (by kernel_rfl) (by kernel_rfl) (by kernel_rfl) (fun _ _ _ h => h) (Or.inr ⟨by rfl, rfl⟩) (by assumption) ?_
                      try simp only [Act.put, List.setIfInBounds_toArray, List.set_cons_zero, List.set_cons_succ]
                      refine wpAnyH_takeL (i := 14) (v := ?vhy112) rfl (by kernel_rfl) (by kernel_rfl) (by kernel_rfl) (fun _ _ _ h => h) (Or.inl ⟨by rfl, ?hy112⟩) (by assumption) ?rhy112
                      case hy112 => ((intro w hSw; (try dsimp only at hSw); go_simp); try with_reducible rfl)
                      try simp only [Act.put, List.setIfInBounds_toArray, List.set_cons_zero, List.set_cons_succ]
                      refine wpAnyH_takeL (i := 15) (v := ?vhy113) rfl (by kernel_rfl) (by kernel_rfl) (by kernel_rfl) (fun _ _ _ h => h) (Or.inl ⟨by rfl, ?hy113⟩) (by assumption) ?rhy113
                      case hy113 => ((intro w hSw; (try dsimp only at hSw); go_simp); try with_reducible rfl)
                      try simp only [Act.put, List.setIfInBounds_toArray, List.set_cons_zero, List.set_cons_succ]
                      refine wpAnyH_takeL (i := 16) (v := ?vhy114) rfl (by kernel_rfl) (by kernel_rfl) (by kernel_rfl) (fun _ _ _ h => h) (Or.inl ⟨by rfl, ?hy114⟩) (by assumption) ?rhy114
                      case hy114 => ((intro w hSw; (try dsimp only at hSw); go_simp); try with_reducible rfl)
                      try simp only [Act.put, List.setIfInBounds_toArray, List.set_cons_zero, List.set_cons_succ]
                      refine wpAnyH_takeL (i := 17) (v := ?vhy115) rfl (by kernel_rfl) (by kernel_rfl) (by kernel_rfl) (fun _ _ _ h => h) (Or.inl ⟨by rfl, ?hy115⟩) (by assumption) ?rhy115
                      case hy115 => ((intro w hSw; (try dsimp only at hSw); go_simp); try with_reducible rfl)
                      try simp only [Act.put, List.setIfInBounds_toArray, List.set_cons_zero, List.set_cons_succ]
                      refine wpAnyH_takeL (i := 18) (v := ?vhy116) rfl (by kernel_rfl) (by kernel_rfl) (by kernel_rfl) (fun _ _ _ h => h) (Or.inl ⟨by rfl, ?hy116⟩) (by assumption) ?rhy116
                      case hy116 => ((intro w hSw; (try dsimp only at hSw); go_simp); try with_reducible rfl)
                      try simp only [Act.put, List.setIfInBounds_toArray, List.set_cons_zero, List.set_cons_succ]
                      refine wpAnyH_takeL (i := 19) (v := ?vhy117) rfl (by kernel_rfl) (by kernel_rfl) (by kernel_rfl) (fun _ _ _ h => h) (Or.inl ⟨by rfl, ?hy117⟩) (by assumption) ?rhy117
                      case hy117 => ((intro w hSw; (try dsimp only at hSw); go_simp); try with_reducible rfl)
                      try simp only [Act.put, List.setIfInBounds_toArray, List.set_cons_zero, List.set_cons_succ]
                      refine wpAnyH_takeL (i := 20) (v := ?vhy118) rfl (by kernel_rfl) (by kernel_rfl) (by kernel_rfl) (fun _ _ _ h => h) (Or.inl ⟨by rfl, ?hy118⟩) (by assumption) ?rhy118
                      case hy118 => ((intro w hSw; (try dsimp only at hSw); go_simp); try with_reducible rfl)
                      try simp only [Act.put, List.setIfInBounds_toArray, List.set_cons_zero, List.set_cons_succ]
                      refine wpAnyH_takeL (i := 21) (v := ?vhy119) rfl (by kernel_rfl) (by kernel_rfl) (by kernel_rfl) (fun _ _ _ h => h) (Or.inl ⟨by rfl, ?hy119⟩) (by assumption) ?rhy119
                      case hy119 => ((intro w hSw; (try dsimp only at hSw); go_simp); try with_reducible rfl)
                      try simp only [Act.put, List.setIfInBounds_toArray, List.set_cons_zero, List.set_cons_succ]
                      refine wpAnyH_takeL (i := 22) (v := ?vhy120) rfl (by kernel_rfl) (by kernel_rfl) (by kernel_rfl) (fun _ _ _ h => h) (Or.inl ⟨by rfl, ?hy120⟩) (by assumption) ?rhy120
                      case hy120 => ((intro w hSw; (try dsimp only at hSw); go_simp); try with_reducible rfl)
                      try simp only [Act.put, List.setIfInBounds_toArray, List.set_cons_zero, List.set_cons_succ]
                      refine wpAnyH_takeL (i := 23) (v := ?vhy121) rfl (by kernel_rfl) (by kernel_rfl) (by kernel_rfl) (fun _ _ _ h => h) (Or.inl ⟨by rfl, ?hy121⟩) (by assumption) ?rhy121
                      case hy121 => ((intro w hSw; (try dsimp only at hSw); go_simp); try with_reducible rfl)
                      try simp only [Act.put, List.setIfInBounds_toArray, List.set_cons_zero, List.set_cons_succ]
                      refine wpAnyH_takeL (i := 24) (v := undef) rfl (by kernel_rfl) (by kernel_rfl) (by kernel_rfl) (fun _ _ _ h => h) (Or.inr ⟨by rfl, rfl⟩) (by assumption) ?_
                      try simp only [Act.put, List.setIfInBounds_toArray, List.set_cons_zero, List.set_cons_succ]
                      refine wpAnyH_takeL (i := 25) (v := undef) rfl (by kernel_rfl) (by kernel_rfl) (by kernel_rfl) (fun _ _ _ h => h) (Or.inr ⟨by rfl, rfl⟩) (by assumption) ?_
                      try simp only [Act.put, List.setIfInBounds_toArray, List.set_cons_zero, List.set_cons_succ]
                      refine wpAnyH_takeL (i := 26) (v := undef) rfl (by kernel_rfl) (by kernel_rfl) (by kernel_rfl) (fun _ _ _ h => h) (Or.inr ⟨by rfl, rfl⟩) (by assumption) ?_
                      try simp only [Act.put, List.setIfInBounds_toArray, List.set_cons_zero, List.set_cons_succ]
                      refine wpAnyH_takeL (i := 27) (v := undef) rfl (by kernel_rfl) (by kernel_rfl) (by kernel_rfl) (fun _ _ _ h => h) (Or.inr ⟨by rfl, rfl⟩) (by assumption) ?_
                      try simp only [Act.put, List.setIfInBounds_toArray, List.set_cons_zero, List.set_cons_succ]
                      refine wpAnyH_takeL (i := 28) (v := undef) rfl (by kernel_rfl) (by kernel_rfl) (by kernel_rfl) (fun _ _ _ h => h) (Or.inr ⟨by rfl, rfl⟩) (by assumption) ?_
                      try simp only [Act.put, List.setIfInBounds_toArray, List.set_cons_zero, List.set_cons_succ]
                      refine wpAnyH_takeL (i := 29) (v := undef) rfl (by kernel_rfl) (by kernel_rfl) (by kernel_rfl) (fun _ _ _ h => h) (Or.inr ⟨by rfl, rfl⟩) (by assumption) ?_
                      try simp only [Act.put, List.setIfInBounds_toArray, List.set_cons_zero, List.set_cons_succ]
                      refine wpAnyH_takeL (i := 30) (v := undef) rfl (by kernel_rfl) (by kernel_rfl) (by kernel_rfl) (fun _ _ _ h => h) (Or.inr ⟨by rfl, rfl⟩) (by assumption) ?_
                      try simp only [Act.put, List.setIfInBounds_toArray, List.set_cons_zero, List.set_cons_succ]
                      refine wpAnyH_takeL (i := 31) (v := ?vhy122) rfl (by kernel_rfl) (by kernel_rfl) (by kernel_rfl) (fun _ _ _ h => h) (Or.inl ⟨by rfl, ?hy122⟩) (by assumption) ?rhy122
                      case hy122 => ((intro w hSw; (try dsimp only at hSw); go_simp); try with_reducible rfl)
                      try simp only [Act.put, List.setIfInBounds_toArray, List.set_cons_zero, List.set_cons_succ]
                      refine wpAnyH_takeL (i := 32) (v := ?vhy123) rfl (by kernel_rfl) (by kernel_rfl) (by kernel_rfl) (fun _ _ _ h => h) (Or.inl ⟨by rfl, ?hy123⟩) (by assumption) ?rhy123
                      case hy123 => ((intro w hSw; (try dsimp only at hSw); go_simp); try with_reducible rfl)
                      try simp only [Act.put, List.setIfInBounds_toArray, List.set_cons_zero, List.set_cons_succ]
                      refine wpAnyH_takeL (i := 33) (v := ?vhy124) rfl (by kernel_rfl) (by kernel_rfl) (by kernel_rfl) (fun _ _ _ h => h) (Or.inl ⟨by rfl, ?hy124⟩) (by assumption) ?rhy124
                      case hy124 => ((intro w hSw; (try dsimp only at hSw); go_simp); try with_reducible rfl)
                      try simp only [Act.put, List.setIfInBounds_toArray, List.set_cons_zero, List.set_cons_succ]
                      refine wpAnyH_takeL (i := 34) (v := ?vhy125) rfl (by kernel_rfl) (by kernel_rfl) (by kernel_rfl) (fun _ _ _ h => h) (Or.inl ⟨by rfl, ?hy125⟩) (by assumption) ?rhy125
                      case hy125 => ((intro w hSw; (try dsimp only at hSw); go_simp); try with_reducible rfl)
                      try simp only [Act.put, List.setIfInBounds_toArray, List.set_cons_zero, List.set_cons_succ]
                      refine wpAnyH_takeL (i := 35) (v := ?vhy126) rfl (by kernel_rfl) (by kernel_rfl) (by kernel_rfl) (fun _ _ _ h => h) (Or.inl ⟨by rfl, ?hy126⟩) (by assumption) ?rhy126
                      case hy126 => ((intro w hSw; (try dsimp only at hSw); go_simp); try with_reducible rfl)
                      try simp only [Act.put, List.setIfInBounds_toArray, List.set_cons_zero, List.set_cons_succ]
                      refine wpAnyH_done (by kernel_rfl) ?_ _
                      refine NoPanic.normal ?_
                      clear hHeld
                      cases q0 with
                      | true =>
                        go_wp2_with fail
                        refine (hHa.out _ hbw).mono ?_
                        rintro e w9 ⟨rfl, hb3⟩
                        replace hbw := hbw.trans (hb3.mono hbw.size)
                        clear hb3
                        replace hbf := Lib.hid hbw
                        clear hbw
                        go_wp2
                        exact ⟨⟨b, by simp, hb1'.2, by rw [hbl.out]; rfl, hbf.out⟩, by simp [intOf]; have := hb.out; omega⟩
                      | false =>
                        go_wp2_with fail
                        refine (hHa.out _ hbw).mono ?_
                        rintro e w9 ⟨rfl, hb3⟩
                        replace hbw := hbw.trans (hb3.mono hbw.size)
                        clear hb3
                        replace hbf := Lib.hid hbw
                        clear hbw
                        go_wp2
                        exact ⟨⟨b, by simp, hb1'.2, by rw [hbl.out]; rfl, hbf.out⟩, by simp [intOf]; have := hb.out; omega⟩
                    | false =>
                      cases d with
                      | true =>
                        refine wp_region_noPanic ?_
                        refine wp_region_held_drew (S := fun W => (W.cell? ⟨w.heap.size + 1, b, none⟩ = some (.bool false) ∧ W.cell? ⟨w.heap.size + 1, a, none⟩ = some (.bool false)) ∧ W.cell? ⟨w.heap.size, b, none⟩ = some (.int .i64 cb) ∧ W.cell? ⟨w.heap.size, a, none⟩ = some (.int .i64 ca)) (by kernel_rfl) (hS.out _ hbw.drew) (fun hHeld => ?_)
                        replace hbw := hbw.drew
                        refine wpAnyH_takeL (i := 0) (v := ?vhy127) rfl (by kernel_rfl) (by kernel_rfl) (by kernel_rfl) (fun _ _ _ h => h) (Or.inl ⟨by rfl, ?hy127⟩) (by assumption) ?rhy127
                        case hy127 => ((intro w hSw; (try dsimp only at hSw); go_simp); try with_reducible rfl)
                        try simp only [Act.put, List.setIfInBounds_toArray, List.set_cons_zero, List.set_cons_succ]
                        refine wpAnyH_takeL (i := 1) (v := ?vhy128) rfl (by kernel_rfl) (by kernel_rfl) (by kernel_rfl) (fun _ _ _ h => h) (Or.inl ⟨by rfl, ?hy128⟩) (by assumption) ?rhy128
                        case hy128 => ((intro w hSw; (try dsimp only at hSw); go_simp); try with_reducible rfl)
                        try simp only [Act.put, List.setIfInBounds_toArray, List.set_cons_zero, List.set_cons_succ]
                        refine wpAnyH_ready (rs := [2]) (by kernel_rfl) (by simp) ?_
                        refine AllReadyH.consL (i := 2) rfl (fun K hK => ?_) AllReadyH.nil
                        go_simp
                        refine (hHb.out _ hbw).mono ?_
                        rintro e w8 ⟨rfl, hb3⟩
                        replace hbw := hbw.trans (hb3.mono hbw.size)
                        refine hK.out _ _ (hS.out _ hbw) (fun hHeld => ?_)
                        clear hK hb3
                        refine wpAnyH_takeL (i := 3) (v := ?vhy129) rfl (by kernel_rfl) (by kernel_rfl) (by kernel_rfl) (fun _ _ _ h => h) (Or.inl ⟨by rfl, ?hy129⟩) (by assumption) ?rhy129
                        case hy129 => ((intro w hSw; (try dsimp only at hSw); go_simp); try with_reducible rfl)
                        try simp only [Act.put, List.setIfInBounds_toArray, List.set_cons_zero, List.set_cons_succ]
                        refine wpAnyH_takeL (i := 4) (v := ?vhy130) rfl (by kernel_rfl) (by kernel_rfl) (by kernel_rfl) (fun _ _ _ h => h) (Or.inl ⟨by rfl, ?hy130⟩) (by assumption) ?rhy130
                        case hy130 => ((intro w hSw; (try dsimp only at hSw); go_simp); try with_reducible rfl)
                        try simp only [Act.put, List.setIfInBounds_toArray, List.set_cons_zero, List.set_cons_succ]
                        refine wpAnyH_takeL (i := 5) (v := ?vhy131) rfl (by kernel_rfl) (by kernel_rfl) (by kernel_rfl) (fun _ _ _ h => h) (Or.inl ⟨by rfl, ?hy131⟩) (by assumption) ?rhy131
                        case hy131 => ((intro w hSw; (try dsimp only at hSw); go_simp); try with_reducible rfl)
                        try simp only [Act.put, List.setIfInBounds_toArray, List.set_cons_zero, List.set_cons_succ]
                        refine wpAnyH_takeL (i := 6) (v := ?vhy132) rfl (by kernel_rfl) (by kernel_rfl) (by kernel_rfl) (fun _ _ _ h => h) (Or.inl ⟨by rfl, ?hy132⟩) (by assumption) ?rhy132
                        case hy132 => ((intro w hSw; (try dsimp only at hSw); go_simp); try with_reducible rfl)
                        try simp only [Act.put, List.setIfInBounds_toArray, List.set_cons_zero, List.set_cons_succ]
                        refine wpAnyH_takeL (i := 7) (v := ?vhy133) rfl (by kernel_rfl) (by kernel_rfl) (by kernel_rfl) (fun _ _ _ h => h) (Or.inl ⟨by rfl, ?hy133⟩) (by assumption) ?rhy133
                        case hy133 => ((intro w hSw; (try dsimp only at hSw); go_simp); try with_reducible rfl)
                        try simp only [Act.put, List.setIfInBounds_toArray, List.set_cons_zero, List.set_cons_succ]
                        refine wpAnyH_takeL (i := 8) (v := ?vhy134) rfl (by kernel_rfl) (by kernel_rfl) (by kernel_rfl) (fun _ _ _ h => h) (Or.inl ⟨by rfl, ?hy134⟩) (by assumption) ?rhy134
                        case hy134 => ((intro w hSw; (try dsimp only at hSw); go_simp); try with_reducible rfl)
                        try simp only [Act.put, List.setIfInBounds_toArray, List.set_cons_zero, List.set_cons_succ]
                        refine wpAnyH_takeL (i := 9) (v := ?vhy135) rfl (by kernel_rfl) (by kernel_rfl) (by kernel_rfl) (fun _ _ _ h => h) (Or.inl ⟨by rfl, ?hy135⟩) (by assumption) ?rhy135
                        case hy135 => ((intro w hSw; (try dsimp only at hSw); go_simp); try with_reducible rfl)
                        try simp only [Act.put, List.setIfInBounds_toArray, List.set_cons_zero, List.set_cons_succ]
                        refine wpAnyH_takeL (i := 10) (v := undef) rfl (by kernel_rfl) (by kernel_rfl) (by kernel_rfl) (fun _ _ _ h => h) (Or.inr ⟨by rfl, rfl⟩) (by assumption) ?_
                        try simp only [Act.put, List.setIfInBounds_toArray, List.set_cons_zero, List.set_cons_succ]
                        refine wpAnyH_takeL (i := 11) (v := undef) rfl (by kernel_rfl) (by kernel_rfl) (by kernel_rfl) (fun _ _ _ h => h) (Or.inr ⟨by rfl, rfl⟩) (by assumption) ?_
                        try simp only [Act.put, List.setIfInBounds_toArray, List.set_cons_zero, List.set_cons_succ]
                        refine wpAnyH_takeL (i := 12) (v := undef) rfl (by kernel_rfl) (by kernel_rfl) (by kernel_rfl) (fun _ _ _ h => h) (Or.inr ⟨by rfl, rfl⟩) (by assumption) ?_
                        try simp only [Act.put, List.setIfInBounds_toArray, List.set_cons_zero, List.set_cons_succ]
                        refine wpAnyH_takeL (i := 13) (v := undef) rfl (by kernel_rfl) (by kernel_rfl) (by kernel_rfl) (fun _ _ _ h => h) (Or.inr ⟨by rfl, rfl⟩) (by assumption) ?_
                        try simp only [Act.put, List.setIfInBounds_toArray, List.set_cons_zero, List.set_cons_succ]
                        refine wpAnyH_takeL (i := 14) (v := ?vhy136) rfl (by kernel_rfl) (by kernel_rfl) (by kernel_rfl) (fun _ _ _ h => h) (Or.inl ⟨by rfl, ?hy136⟩) (by assumption) ?rhy136
                        case hy136 => ((intro w hSw; (try dsimp only at hSw); go_simp); try with_reducible rfl)
                        try simp only [Act.put, List.setIfInBounds_toArray, List.set_cons_zero, List.set_cons_succ]
                        refine wpAnyH_takeL (i := 15) (v := ?vhy137) rfl (by kernel_rfl) (by kernel_rfl) (by kernel_rfl) (fun _ _ _ h => h) (Or.inl ⟨by rfl, ?hy137⟩) (by assumption) ?rhy137
                        case hy137 => ((intro w hSw; (try dsimp only at hSw); go_simp); try with_reducible rfl)
                        try simp only [Act.put, List.setIfInBounds_toArray, List.set_cons_zero, List.set_cons_succ]
                        refine wpAnyH_takeL (i := 16) (v := ?vhy138) rfl (by kernel_rfl) (by kernel_rfl) (by kernel_rfl) (fun _ _ _ h => h) (Or.inl ⟨by rfl, ?hy138⟩) (by assumption) ?rhy138
                        case hy138 => ((intro w hSw; (try dsimp only at hSw); go_simp); try with_reducible rfl)
                        try simp only [Act.put, List.setIfInBounds_toArray, List.set_cons_zero, List.set_cons_succ]
                        refine wpAnyH_takeL (i := 17) (v := ?vhy139) rfl (by kernel_rfl) (by kernel_rfl) (by kernel_rfl) (fun _ _ _ h => h) (Or.inl ⟨by rfl, ?hy139⟩) (by assumption) ?rhy139
                        case hy139 => ((intro w hSw; (try dsimp only at hSw); go_simp); try with_reducible rfl)
                        try simp only [Act.put, List.setIfInBounds_toArray, List.set_cons_zero, List.set_cons_succ]
                        refine wpAnyH_takeL (i := 18) (v := ?vhy140) rfl (by kernel_rfl) (by kernel_rfl) (by kernel_rfl) (fun _ _ _ h => h) (Or.inl ⟨by rfl, ?hy140⟩) (by assumption) ?rhy140
                        case hy140 => ((intro w hSw; (try dsimp only at hSw); go_simp); try with_reducible rfl)
                        try simp only [Act.put, List.setIfInBounds_toArray, List.set_cons_zero, List.set_cons_succ]
                        refine wpAnyH_takeL (i := 19) (v := ?vhy141) rfl (by kernel_rfl) (by kernel_rfl) (by kernel_rfl) (fun _ _ _ h => h) (Or.inl ⟨by rfl, ?hy141⟩) (by assumption) ?rhy141
                        case hy141 => ((intro w hSw; (try dsimp only at hSw); go_simp); try with_reducible rfl)
                        try simp only [Act.put, List.setIfInBounds_toArray, List.set_cons_zero, List.set_cons_succ]
                        refine wpAnyH_takeL (i := 20) (v := ?vhy142) rfl (by kernel_rfl) (by kernel_rfl) (by kernel_rfl) (fun _ _ _ h => h) (Or.inl ⟨by rfl, ?hy142⟩) (by assumption) ?rhy142
                        case hy142 => ((intro w hSw; (try dsimp only at hSw); go_simp); try with_reducible rfl)
                        try simp only [Act.put, List.setIfInBounds_toArray, List.set_cons_zero, List.set_cons_succ]
                        refine wpAnyH_takeL (i := 21) (v := ?vhy143) rfl (by kernel_rfl) (by kernel_rfl) (by kernel_rfl) (fun _ _ _ h => h) (Or.inl ⟨by rfl, ?hy143⟩) (by assumption) ?rhy143
                        case hy143 => ((intro w hSw; (try dsimp only at hSw); go_simp); try with_reducible rfl)
                        try simp only [Act.put, List.setIfInBounds_toArray, List.set_cons_zero, List.set_cons_succ]
                        refine wpAnyH_takeL (i := 22) (v := ?vhy144) rfl (by kernel_rfl) (by kernel_rfl) (by kernel_rfl) (fun _ _ _ h => h) (Or.inl ⟨by rfl, ?hy144⟩) (by assumption) ?rhy144
                        case hy144 => ((intro w hSw; (try dsimp only at hSw); go_simp); try with_reducible rfl)
                        try simp only [Act.put, List.setIfInBounds_toArray, List.set_cons_zero, List.set_cons_succ]
                        refine wpAnyH_takeL (i := 23) (v := ?vhy145) rfl (by kernel_rfl) (by kernel_rfl) (by kernel_rfl) (fun _ _ _ h => h) (Or.inl ⟨by rfl, ?hy145⟩) (by assumption) ?rhy145
                        case hy145 => ((intro w hSw; (try dsimp only at hSw); go_simp); try with_reducible rfl)
                        try simp only [Act.put, List.setIfInBounds_toArray, List.set_cons_zero, List.set_cons_succ]
                        refine wpAnyH_takeL (i := 24) (v := ?vhy146) rfl (by kernel_rfl) (by kernel_rfl) (by kernel_rfl) (fun _ _ _ h => h) (Or.inl ⟨by rfl, ?hy146⟩) (by assumption) ?rhy146
                        case hy146 => ((intro w hSw; (try dsimp only at hSw); go_simp); try with_reducible rfl)
                        try simp only [Act.put, List.setIfInBounds_toArray, List.set_cons_zero, List.set_cons_succ]
                        refine wpAnyH_takeL (i := 25) (v := ?vhy147) rfl (by kernel_rfl) (by kernel_rfl) (by kernel_rfl) (fun _ _ _ h => h) (Or.inl ⟨by rfl, ?hy147⟩) (by assumption) ?rhy147
                        case hy147 => ((intro w hSw; (try dsimp only at hSw); go_simp); try with_reducible rfl)
                        try simp only [Act.put, List.setIfInBounds_toArray, List.set_cons_zero, List.set_cons_succ]
                        refine wpAnyH_takeL (i := 26) (v := ?vhy148) rfl (by kernel_rfl) (by kernel_rfl) (by kernel_rfl) (fun _ _ _ h => h) (Or.inl ⟨by rfl, ?hy148⟩) (by assumption) ?rhy148
                        case hy148 => ((intro w hSw; (try dsimp only at hSw); go_simp); try with_reducible rfl)
                        try simp only [Act.put, List.setIfInBounds_toArray, List.set_cons_zero, List.set_cons_succ]
                        refine wpAnyH_takeL (i := 27) (v := ?vhy149) rfl (by kernel_rfl) (by kernel_rfl) (by kernel_rfl) (fun _ _ _ h => h) (Or.inl ⟨by rfl, ?hy149⟩) (by assumption) ?rhy149
                        case hy149 => ((intro w hSw; (try dsimp only at hSw); go_simp); try with_reducible rfl)
                        try simp only [Act.put, List.setIfInBounds_toArray, List.set_cons_zero, List.set_cons_succ]
                        refine wpAnyH_takeL (i := 28) (v := ?vhy150) rfl (by kernel_rfl) (by kernel_rfl) (by kernel_rfl) (fun _ _ _ h => h) (Or.inl ⟨by rfl, ?hy150⟩) (by assumption) ?rhy150
                        case hy150 => ((intro w hSw; (try dsimp only at hSw); go_simp); try with_reducible rfl)
                        try simp only [Act.put, List.setIfInBounds_toArray, List.set_cons_zero, List.set_cons_succ]
                        refine wpAnyH_takeL (i := 29) (v := ?vhy151) rfl (by kernel_rfl) (by kernel_rfl) (by kernel_rfl) (fun _ _ _ h => h) (Or.inl ⟨by rfl, ?hy151⟩) (by assumption) ?rhy151
                        case hy151 => ((intro w hSw; (try dsimp only at hSw); go_simp); try with_reducible rfl)
                        try simp only [Act.put, List.setIfInBounds_toArray, List.set_cons_zero, List.set_cons_succ]
                        refine wpAnyH_takeL (i := 30) (v := ?vhy152) rfl (by kernel_rfl) (by kernel_rfl) (by kernel_rfl) (fun _ _ _ h => h) (Or.inl ⟨by rfl, ?hy152⟩) (by assumption) ?rhy152
                        case hy152 => ((intro w hSw; (try dsimp only at hSw); go_simp); try with_reducible rfl)
                        try simp only [Act.put, List.setIfInBounds_toArray, List.set_cons_zero, List.set_cons_succ]
                        refine wpAnyH_takeL (i := 31) (v := ?vhy153) rfl (by kernel_rfl) (by kernel_rfl) (by kernel_rfl) (fun _ _ _ h => h) (Or.inl ⟨by rfl, ?hy153⟩) (by assumption) ?rhy153
                        case hy153 => ((intro w hSw; (try dsimp only at hSw); go_simp); try with_reducible rfl)
                        try simp only [Act.put, List.setIfInBounds_toArray, List.set_cons_zero, List.set_cons_succ]
                        refine wpAnyH_takeL (i := 32) (v := ?vhy154) rfl (by kernel_rfl) (by kernel_rfl) (by kernel_rfl) (fun _ _ _ h => h) (Or.inl ⟨by rfl, ?hy154⟩) (by assumption) ?rhy154
                        case hy154 => ((intro w hSw; (try dsimp only at hSw); go_simp); try with_reducible rfl)
                        try simp only [Act.put, List.setIfInBounds_toArray, List.set_cons_zero, List.set_cons_succ]
                        refine wpAnyH_takeL (i := 33) (v := ?vhy155) rfl (by kernel_rfl) (by kernel_rfl) (by kernel_rfl) (fun _ _ _ h => h) (Or.inl ⟨by rfl, ?hy155⟩) (by assumption) ?rhy155
                        case hy155 => ((intro w hSw; (try dsimp only at hSw); go_simp); try with_reducible rfl)
                        try simp only [Act.put, List.setIfInBounds_toArray, List.set_cons_zero, List.set_cons_succ]
                        refine wpAnyH_takeL (i := 34) (v := ?vhy156) rfl (by kernel_rfl) (by kernel_rfl) (by kernel_rfl) (fun _ _ _ h => h) (Or.inl ⟨by rfl, ?hy156⟩) (by assumption) ?rhy156
                        case hy156 => ((intro w hSw; (try dsimp only at hSw); go_simp); try with_reducible rfl)
                        try simp only [Act.put, List.setIfInBounds_toArray, List.set_cons_zero, List.set_cons_succ]
                        refine wpAnyH_takeL (i := 35) (v := ?vhy157) rfl (by kernel_rfl) (by kernel_rfl) (by kernel_rfl) (fun _ _ _ h => h) (Or.inl ⟨by rfl, ?hy157⟩) (by assumption) ?rhy157
                        case hy157 => ((intro w hSw; (try dsimp only at hSw); go_simp); try with_reducible rfl)
                        try simp only [Act.put, List.setIfInBounds_toArray, List.set_cons_zero, List.set_cons_succ]
                        refine wpAnyH_done (by kernel_rfl) ?_ _
                        refine NoPanic.normal ?_
                        clear hHeld
                        cases q0 with
                        | true =>
                          go_wp2_with fail
                          refine (hHa.out _ hbw).mono ?_
                          rintro e w9 ⟨rfl, hb3⟩
                          replace hbw := hbw.trans (hb3.mono hbw.size)
                          clear hb3
                          replace hbf := Lib.hid hbw
                          clear hbw
                          go_wp2
                          exact ⟨⟨b, by simp, hb1'.2, by rw [hbl.out]; rfl, hbf.out⟩, by simp [intOf]; have := hb.out; omega⟩
                        | false =>
                          go_wp2_with fail
                          refine (hHa.out _ hbw).mono ?_
                          rintro e w9 ⟨rfl, hb3⟩
                          replace hbw := hbw.trans (hb3.mono hbw.size)
                          clear hb3
                          replace hbf := Lib.hid hbw
                          clear hbw
                          go_wp2
                          exact ⟨⟨b, by simp, hb1'.2, by rw [hbl.out]; rfl, hbf.out⟩, by simp [intOf]; have := hb.out; omega⟩
                      | false =>
                        refine wp_region_noPanic ?_
                        refine wp_region_held_drew (S := fun W => (W.cell? ⟨w.heap.size + 1, b, none⟩ = some (.bool false) ∧ W.cell? ⟨w.heap.size + 1, a, none⟩ = some (.bool false)) ∧ W.cell? ⟨w.heap.size, b, none⟩ = some (.int .i64 cb) ∧ W.cell? ⟨w.heap.size, a, none⟩ = some (.int .i64 ca)) (by kernel_rfl) (hS.out _ hbw.drew) (fun hHeld => ?_)
                        replace hbw := hbw.drew
                        refine wpAnyH_takeL (i := 0) (v := ?vhy158) rfl (by kernel_rfl) (by kernel_rfl) (by kernel_rfl) (fun _ _ _ h => h) (Or.inl ⟨by rfl, ?hy158⟩) (by assumption) ?rhy158
                        case hy158 => ((intro w hSw; (try dsimp only at hSw); go_simp); try with_reducible rfl)
                        try simp only [Act.put, List.setIfInBounds_toArray, List.set_cons_zero, List.set_cons_succ]
                        refine wpAnyH_takeL (i := 1) (v := ?vhy159) rfl (by kernel_rfl) (by kernel_rfl) (by kernel_rfl) (fun _ _ _ h => h) (Or.inl ⟨by rfl, ?hy159⟩) (by assumption) ?rhy159
                        case hy159 => ((intro w hSw; (try dsimp only at hSw); go_simp); try with_reducible rfl)
                        try simp only [Act.put, List.setIfInBounds_toArray, List.set_cons_zero, List.set_cons_succ]
                        refine wpAnyH_ready (rs := [2]) (by kernel_rfl) (by simp) ?_
                        refine AllReadyH.consL (i := 2) rfl (fun K hK => ?_) AllReadyH.nil
                        go_simp
                        refine (hHb.out _ hbw).mono ?_
                        rintro e w8 ⟨rfl, hb3⟩
                        replace hbw := hbw.trans (hb3.mono hbw.size)
                        refine hK.out _ _ (hS.out _ hbw) (fun hHeld => ?_)
                        clear hK hb3
                        refine wpAnyH_takeL (i := 3) (v := ?vhy160) rfl (by kernel_rfl) (by kernel_rfl) (by kernel_rfl) (fun _ _ _ h => h) (Or.inl ⟨by rfl, ?hy160⟩) (by assumption) ?rhy160
                        case hy160 => ((intro w hSw; (try dsimp only at hSw); go_simp); try with_reducible rfl)
                        try simp only [Act.put, List.setIfInBounds_toArray, List.set_cons_zero, List.set_cons_succ]
                        refine wpAnyH_takeL (i := 4) (v := ?vhy161) rfl (by kernel_rfl) (by kernel_rfl) (by kernel_rfl) (fun _ _ _ h => h) (Or.inl ⟨by rfl, ?hy161⟩) (by assumption) ?rhy161
                        case hy161 => ((intro w hSw; (try dsimp only at hSw); go_simp); try with_reducible rfl)
                        try simp only [Act.put, List.setIfInBounds_toArray, List.set_cons_zero, List.set_cons_succ]
                        refine wpAnyH_takeL (i := 5) (v := ?vhy162) rfl (by kernel_rfl) (by kernel_rfl) (by kernel_rfl) (fun _ _ _ h => h) (Or.inl ⟨by rfl, ?hy162⟩) (by assumption) ?rhy162
                        case hy162 => ((intro w hSw; (try dsimp only at hSw); go_simp); try with_reducible rfl)
                        try simp only [Act.put, List.setIfInBounds_toArray, List.set_cons_zero, List.set_cons_succ]
                        refine wpAnyH_takeL (i := 6) (v := ?vhy163) rfl (by kernel_rfl) (by kernel_rfl) (by kernel_rfl) (fun _ _ _ h => h) (Or.inl ⟨by rfl, ?hy163⟩) (by assumption) ?rhy163
                        case hy163 => ((intro w hSw; (try dsimp only at hSw); go_simp); try with_reducible rfl)
                        try simp only [Act.put, List.setIfInBounds_toArray, List.set_cons_zero, List.set_cons_succ]
                        refine wpAnyH_takeL (i := 7) (v := ?vhy164) rfl (by kernel_rfl) (by kernel_rfl) (by kernel_rfl) (fun _ _ _ h => h) (Or.inl ⟨by rfl, ?hy164⟩) (by assumption) ?rhy164
                        case hy164 => ((intro w hSw; (try dsimp only at hSw); go_simp); try with_reducible rfl)
                        try simp only [Act.put, List.setIfInBounds_toArray, List.set_cons_zero, List.set_cons_succ]
                        refine wpAnyH_takeL (i := 8) (v := ?vhy165) rfl (by kernel_rfl) (by kernel_rfl) (by kernel_rfl) (fun _ _ _ h => h) (Or.inl ⟨by rfl, ?hy165⟩) (by assumption) ?rhy165
                        case hy165 => ((intro w hSw; (try dsimp only at hSw); go_simp); try with_reducible rfl)
                        try simp only [Act.put, List.setIfInBounds_toArray, List.set_cons_zero, List.set_cons_succ]
                        refine wpAnyH_takeL (i := 9) (v := ?vhy166) rfl (by kernel_rfl) (by kernel_rfl) (by kernel_rfl) (fun _ _ _ h => h) (Or.inl ⟨by rfl, ?hy166⟩) (by assumption) ?rhy166
                        case hy166 => ((intro w hSw; (try dsimp only at hSw); go_simp); try with_reducible rfl)
                        try simp only [Act.put, List.setIfInBounds_toArray, List.set_cons_zero, List.set_cons_succ]
                        refine wpAnyH_takeL (i := 10) (v := undef) rfl (by kernel_rfl) (by kernel_rfl) (by kernel_rfl) (fun _ _ _ h => h) (Or.inr ⟨by rfl, rfl⟩) (by assumption) ?_
                        try simp only [Act.put, List.setIfInBounds_toArray, List.set_cons_zero, List.set_cons_succ]
                        refine wpAnyH_takeL (i := 11) (v := undef) rfl (by kernel_rfl) (by kernel_rfl) (by kernel_rfl) (fun _ _ _ h => h) (Or.inr ⟨by rfl, rfl⟩) (by assumption) ?_
                        try simp only [Act.put, List.setIfInBounds_toArray, List.set_cons_zero, List.set_cons_succ]
                        refine wpAnyH_takeL (i := 12) (v := undef) rfl (by kernel_rfl) (by kernel_rfl) (by kernel_rfl) (fun _ _ _ h => h) (Or.inr ⟨by rfl, rfl⟩) (by assumption) ?_
                        try simp only [Act.put, List.setIfInBounds_toArray, List.set_cons_zero, List.set_cons_succ]
                        refine wpAnyH_takeL (i := 13) (v := undef) rfl (by kernel_rfl) (by kernel_rfl) (by kernel_rfl) (fun _ _ _ h => h) (Or.inr ⟨by rfl, rfl⟩) (by assumption) ?_
                        try simp only [Act.put, List.setIfInBounds_toArray, List.set_cons_zero, List.set_cons_succ]
                        refine wpAnyH_takeL (i := 14) (v := ?vhy167) rfl (by kernel_rfl) (by kernel_rfl) (by kernel_rfl) (fun _ _ _ h => h) (Or.inl ⟨by rfl, ?hy167⟩) (by assumption) ?rhy167
                        case hy167 => ((intro w hSw; (try dsimp only at hSw); go_simp); try with_reducible rfl)
                        try simp only [Act.put, List.setIfInBounds_toArray, List.set_cons_zero, List.set_cons_succ]
                        refine wpAnyH_takeL (i := 15) (v := ?vhy168) rfl (by kernel_rfl) (by kernel_rfl) (by kernel_rfl) (fun _ _ _ h => h) (Or.inl ⟨by rfl, ?hy168⟩) (by assumption) ?rhy168
                        case hy168 => ((intro w hSw; (try dsimp only at hSw); go_simp); try with_reducible rfl)
                        try simp only [Act.put, List.setIfInBounds_toArray, List.set_cons_zero, List.set_cons_succ]
                        refine wpAnyH_takeL (i := 16) (v := ?vhy169) rfl (by kernel_rfl) (by kernel_rfl) (by kernel_rfl) (fun _ _ _ h => h) (Or.inl ⟨by rfl, ?hy169⟩) (by assumption) ?rhy169
                        case hy169 => ((intro w hSw; (try dsimp only at hSw); go_simp); try with_reducible rfl)
                        try simp only [Act.put, List.setIfInBounds_toArray, List.set_cons_zero, List.set_cons_succ]
                        refine wpAnyH_takeL (i := 17) (v := ?vhy170) rfl (by kernel_rfl) (by kernel_rfl) (by kernel_rfl) (fun _ _ _ h => h) (Or.inl ⟨by rfl, ?hy170⟩) (by assumption) ?rhy170
                        case hy170 => ((intro w hSw; (try dsimp only at hSw); go_simp); try with_reducible rfl)
                        try simp only [Act.put, List.setIfInBounds_toArray, List.set_cons_zero, List.set_cons_succ]
                        refine wpAnyH_takeL (i := 18) (v := ?vhy171) rfl (by kernel_rfl) (by kernel_rfl) (by kernel_rfl) (fun _ _ _ h => h) (Or.inl ⟨by rfl, ?hy171⟩) (by assumption) ?rhy171
                        case hy171 => ((intro w hSw; (try dsimp only at hSw); go_simp); try with_reducible rfl)
                        try simp only [Act.put, List.setIfInBounds_toArray, List.set_cons_zero, List.set_cons_succ]
                        refine wpAnyH_takeL (i := 19) (v := ?vhy172) rfl (by kernel_rfl) (by kernel_rfl) (by kernel_rfl) (fun _ _ _ h => h) (Or.inl ⟨by rfl, ?hy172⟩) (by assumption) ?rhy172
                        case hy172 => ((intro w hSw; (try dsimp only at hSw); go_simp); try with_reducible rfl)
                        try simp only [Act.put, List.setIfInBounds_toArray, List.set_cons_zero, List.set_cons_succ]
                        refine wpAnyH_takeL (i := 20) (v := ?vhy173) rfl (by kernel_rfl) (by kernel_rfl) (by kernel_rfl) (fun _ _ _ h => h) (Or.inl ⟨by rfl, ?hy173⟩) (by assumption) ?rhy173
                        case hy173 => ((intro w hSw; (try dsimp only at hSw); go_simp); try with_reducible rfl)
                        try simp only [Act.put, List.setIfInBounds_toArray, List.set_cons_zero, List.set_cons_succ]
                        refine wpAnyH_takeL (i := 21) (v := ?vhy174) rfl (by kernel_rfl) (by kernel_rfl) (by kernel_rfl) (fun _ _ _ h => h) (Or.inl ⟨by rfl, ?hy174⟩) (by assumption) ?rhy174
                        case hy174 => ((intro w hSw; (try dsimp only at hSw); go_simp); try with_reducible rfl)
                        try simp only [Act.put, List.setIfInBounds_toArray, List.set_cons_zero, List.set_cons_succ]
                        refine wpAnyH_takeL (i := 22) (v := ?vhy175) rfl (by kernel_rfl) (by kernel_rfl) (by kernel_rfl) (fun _ _ _ h => h) (Or.inl ⟨by rfl, ?hy175⟩) (by assumption) ?rhy175
                        case hy175 => ((intro w hSw; (try dsimp only at hSw); go_simp); try with_reducible rfl)
                        try simp only [Act.put, List.setIfInBounds_toArray, List.set_cons_zero, List.set_cons_succ]
                        refine wpAnyH_takeL (i := 23) (v := ?vhy176) rfl (by kernel_rfl) (by kernel_rfl) (by kernel_rfl) (fun _ _ _ h => h) (Or.inl ⟨by rfl, ?hy176⟩) (by assumption) ?rhy176
                        case hy176 => ((intro w hSw; (try dsimp only at hSw); go_simp); try with_reducible rfl)
                        try simp only [Act.put, List.setIfInBounds_toArray, List.set_cons_zero, List.set_cons_succ]
                        refine wpAnyH_takeL (i := 24) (v := ?vhy177) rfl (by kernel_rfl) (by kernel_rfl) (by kernel_rfl) (fun _ _ _ h => h) (Or.inl ⟨by rfl, ?hy177⟩) (by assumption) ?rhy177
                        case hy177 => ((intro w hSw; (try dsimp only at hSw); go_simp); try with_reducible rfl)
                        try simp only [Act.put, List.setIfInBounds_toArray, List.set_cons_zero, List.set_cons_succ]
                        refine wpAnyH_takeL (i := 25) (v := ?vhy178) rfl (by kernel_rfl) (by kernel_rfl) (by kernel_rfl) (fun _ _ _ h => h) (Or.inl ⟨by rfl, ?hy178⟩) (by assumption) ?rhy178
                        case hy178 => ((intro w hSw; (try dsimp only at hSw); go_simp); try with_reducible rfl)
                        try simp only [Act.put, List.setIfInBounds_toArray, List.set_cons_zero, List.set_cons_succ]
                        refine wpAnyH_takeL (i := 26) (v := ?vhy179) rfl (by kernel_rfl) (by kernel_rfl) (by kernel_rfl) (fun _ _ _ h => h) (Or.inl ⟨by rfl, ?hy179⟩) (by assumption) ?rhy179
                        case hy179 => ((intro w hSw; (try dsimp only at hSw); go_simp); try with_reducible rfl)
                        try simp only [Act.put, List.setIfInBounds_toArray, List.set_cons_zero, List.set_cons_succ]
                        refine wpAnyH_takeL (i := 27) (v := ?vhy180) rfl (by kernel_rfl) (by kernel_rfl) (by kernel_rfl) (fun _ _ _ h => h) (Or.inl ⟨by rfl, ?hy180⟩) (by assumption) ?rhy180
                        case hy180 => ((intro w hSw; (try dsimp only at hSw); go_simp); try with_reducible rfl)
                        try simp only [Act.put, List.setIfInBounds_toArray, List.set_cons_zero, List.set_cons_succ]
                        refine wpAnyH_takeL (i := 28) (v := ?vhy181) rfl (by kernel_rfl) (by kernel_rfl) (by kernel_rfl) (fun _ _ _ h => h) (Or.inl ⟨by rfl, ?hy181⟩) (by assumption) ?rhy181
                        case hy181 => ((intro w hSw; (try dsimp only at hSw); go_simp); try with_reducible rfl)
                        try simp only [Act.put, List.setIfInBounds_toArray, List.set_cons_zero, List.set_cons_succ]
                        refine wpAnyH_takeL (i := 29) (v := ?vhy182) rfl (by kernel_rfl) (by kernel_rfl) (by kernel_rfl) (fun _ _ _ h => h) (Or.inl ⟨by rfl, ?hy182⟩) (by assumption) ?rhy182
                        case hy182 => ((intro w hSw; (try dsimp only at hSw); go_simp); try with_reducible rfl)
                        try simp only [Act.put, List.setIfInBounds_toArray, List.set_cons_zero, List.set_cons_succ]
                        refine wpAnyH_takeL (i := 30) (v := ?vhy183) rfl (by kernel_rfl) (by kernel_rfl) (by kernel_rfl) (fun _ _ _ h => h) (Or.inl ⟨by rfl, ?hy183⟩) (by assumption) ?rhy183
                        case hy183 => ((intro w hSw; (try dsimp only at hSw); go_simp); try with_reducible rfl)
                        try simp only [Act.put, List.setIfInBounds_toArray, List.set_cons_zero, List.set_cons_succ]
                        refine wpAnyH_takeL (i := 31) (v := ?vhy184) rfl (by kernel_rfl) (by kernel_rfl) (by kernel_rfl) (fun _ _ _ h => h) (Or.inl ⟨by rfl, ?hy184⟩) (by assumption) ?rhy184
                        case hy184 => ((intro w hSw; (try dsimp only at hSw); go_simp); try with_reducible rfl)
                        try simp only [Act.put, List.setIfInBounds_toArray, List.set_cons_zero, List.set_cons_succ]
                        refine wpAnyH_takeL (i := 32) (v := ?vhy185) rfl (by kernel_rfl) (by kernel_rfl) (by kernel_rfl) (fun _ _ _ h => h) (Or.inl ⟨by rfl, ?hy185⟩) (by assumption) ?rhy185
                        case hy185 => ((intro w hSw; (try dsimp only at hSw); go_simp); try with_reducible rfl)
                        try simp only [Act.put, List.setIfInBounds_toArray, List.set_cons_zero, List.set_cons_succ]
                        refine wpAnyH_takeL (i := 33) (v := ?vhy186) rfl (by kernel_rfl) (by kernel_rfl) (by kernel_rfl) (fun _ _ _ h => h) (Or.inl ⟨by rfl, ?hy186⟩) (by assumption) ?rhy186
                        case hy186 => ((intro w hSw; (try dsimp only at hSw); go_simp); try with_reducible rfl)
                        try simp only [Act.put, List.setIfInBounds_toArray, List.set_cons_zero, List.set_cons_succ]
                        refine wpAnyH_takeL (i := 34) (v := ?vhy187) rfl (by kernel_rfl) (by kernel_rfl) (by kernel_rfl) (fun _ _ _ h => h) (Or.inl ⟨by rfl, ?hy187⟩) (by assumption) ?rhy187
                        case hy187 => ((intro w hSw; (try dsimp only at hSw); go_simp); try with_reducible rfl)
                        try simp only [Act.put, List.setIfInBounds_toArray, List.set_cons_zero, List.set_cons_succ]
                        refine wpAnyH_takeL (i := 35) (v := ?vhy188) rfl (by kernel_rfl) (by kernel_rfl) (by kernel_rfl) (fun _ _ _ h => h) (Or.inl ⟨by rfl, ?hy188⟩) (by assumption) ?rhy188
                        case hy188 => ((intro w hSw; (try dsimp only at hSw); go_simp); try with_reducible rfl)
                        try simp only [Act.put, List.setIfInBounds_toArray, List.set_cons_zero, List.set_cons_succ]
                        refine wpAnyH_done (by kernel_rfl) ?_ _
                        refine NoPanic.normal ?_
                        clear hHeld
                        cases q0 with
                        | true =>
                          go_wp2_with fail
                          refine (hHa.out _ hbw).mono ?_
                          rintro e w9 ⟨rfl, hb3⟩
                          replace hbw := hbw.trans (hb3.mono hbw.size)
                          clear hb3
                          replace hbf := Lib.hid hbw
                          clear hbw
                          go_wp2
                          exact ⟨⟨b, by simp, hb1'.2, by rw [hbl.out]; rfl, hbf.out⟩, by simp [intOf]; have := hb.out; omega⟩
                        | false =>
                          go_wp2_with fail
                          refine (hHa.out _ hbw).mono ?_
                          rintro e w9 ⟨rfl, hb3⟩
                          replace hbw := hbw.trans (hb3.mono hbw.size)
                          clear hb3
                          replace hbf := Lib.hid hbw
                          clear hbw
                          go_wp2
                          exact ⟨⟨b, by simp, hb1'.2, by rw [hbl.out]; rfl, hbf.out⟩, by simp [intOf]; have := hb.out; omega⟩
            | true =>
              obtain rfl : hbv = false := F1.out rfl
              clear F1
              go_wp2_with fail
              refine (hHa.out _ hbw).mono ?_
              rintro e w8 ⟨rfl, hb3⟩
              replace hbw := hbw.trans (hb3.mono hbw.size)
              clear hb3
              go_wp2_with fail
              refine (hHb.out _ hbw).mono ?_
              rintro e w9 ⟨rfl, hb3⟩
              replace hbw := hbw.trans (hb3.mono hbw.size)
              clear hb3
              go_upto_region 13 with fail
              cases wb with
              | false =>
                refine wp_region_noPanic ?_
                refine wp_region_held_drew (S := fun W => (W.cell? ⟨w.heap.size + 1, b, none⟩ = some (.bool fb) ∧ W.cell? ⟨w.heap.size + 1, a, none⟩ = some (.bool fa)) ∧ W.cell? ⟨w.heap.size, b, none⟩ = some (.int .i64 cb) ∧ W.cell? ⟨w.heap.size, a, none⟩ = some (.int .i64 ca)) (by kernel_rfl) (hS.out _ hbw.drew) (fun hHeld => ?_)
                replace hbw := hbw.drew
                refine wpAnyH_takeL (i := 0) (v := ?vhy189) rfl (by kernel_rfl) (by kernel_rfl) (by kernel_rfl) (fun _ _ _ h => h) (Or.inl ⟨by rfl, ?hy189⟩) (by assumption) ?rhy189
                case hy189 => ((intro w hSw; (try dsimp only at hSw); go_simp); try with_reducible rfl)
                try simp only [Act.put, List.setIfInBounds_toArray, List.set_cons_zero, List.set_cons_succ]
                refine wpAnyH_takeL (i := 1) (v := ?vhy190) rfl (by kernel_rfl) (by kernel_rfl) (by kernel_rfl) (fun _ _ _ h => h) (Or.inl ⟨by rfl, ?hy190⟩) (by assumption) ?rhy190
                case hy190 => ((intro w hSw; (try dsimp only at hSw); go_simp); try with_reducible rfl)
                try simp only [Act.put, List.setIfInBounds_toArray, List.set_cons_zero, List.set_cons_succ]
                refine wpAnyH_ready (rs := [2]) (by kernel_rfl) (by simp) ?_
                refine AllReadyH.consL (i := 2) rfl (fun K hK => ?_) AllReadyH.nil
                go_simp
                refine (hHb.out _ hbw).mono ?_
                rintro e w8 ⟨rfl, hb3⟩
                replace hbw := hbw.trans (hb3.mono hbw.size)
                refine hK.out _ _ (hS.out _ hbw) (fun hHeld => ?_)
                clear hK hb3
                refine wpAnyH_takeL (i := 3) (v := ?vhy191) rfl (by kernel_rfl) (by kernel_rfl) (by kernel_rfl) (fun _ _ _ h => h) (Or.inl ⟨by rfl, ?hy191⟩) (by assumption) ?rhy191
                case hy191 => ((intro w hSw; (try dsimp only at hSw); go_simp); try with_reducible rfl)
                try simp only [Act.put, List.setIfInBounds_toArray, List.set_cons_zero, List.set_cons_succ]
                refine wpAnyH_takeL (i := 4) (v := ?vhy192) rfl (by kernel_rfl) (by kernel_rfl) (by kernel_rfl) (fun _ _ _ h => h) (Or.inl ⟨by rfl, ?hy192⟩) (by assumption) ?rhy192
                case hy192 => ((intro w hSw; (try dsimp only at hSw); go_simp); try with_reducible rfl)
                try simp only [Act.put, List.setIfInBounds_toArray, List.set_cons_zero, List.set_cons_succ]
                refine wpAnyH_takeL (i := 5) (v := ?vhy193) rfl (by kernel_rfl) (by kernel_rfl) (by kernel_rfl) (fun _ _ _ h => h) (Or.inl ⟨by rfl, ?hy193⟩) (by assumption) ?rhy193
                case hy193 => ((intro w hSw; (try dsimp only at hSw); go_simp); try with_reducible rfl)
                try simp only [Act.put, List.setIfInBounds_toArray, List.set_cons_zero, List.set_cons_succ]
                refine wpAnyH_takeL (i := 6) (v := undef) rfl (by kernel_rfl) (by kernel_rfl) (by kernel_rfl) (fun _ _ _ h => h) (Or.inr ⟨by rfl, rfl⟩) (by assumption) ?_
                try simp only [Act.put, List.setIfInBounds_toArray, List.set_cons_zero, List.set_cons_succ]
                refine wpAnyH_takeL (i := 7) (v := undef) rfl (by kernel_rfl) (by kernel_rfl) (by kernel_rfl) (fun _ _ _ h => h) (Or.inr ⟨by rfl, rfl⟩) (by assumption) ?_
                try simp only [Act.put, List.setIfInBounds_toArray, List.set_cons_zero, List.set_cons_succ]
                refine wpAnyH_takeL (i := 8) (v := undef) rfl (by kernel_rfl) (by kernel_rfl) (by kernel_rfl) (fun _ _ _ h => h) (Or.inr ⟨by rfl, rfl⟩) (by assumption) ?_
                try simp only [Act.put, List.setIfInBounds_toArray, List.set_cons_zero, List.set_cons_succ]
                refine wpAnyH_takeL (i := 9) (v := undef) rfl (by kernel_rfl) (by kernel_rfl) (by kernel_rfl) (fun _ _ _ h => h) (Or.inr ⟨by rfl, rfl⟩) (by assumption) ?_
                try simp only [Act.put, List.setIfInBounds_toArray, List.set_cons_zero, List.set_cons_succ]
                refine wpAnyH_takeL (i := 10) (v := undef) rfl (by kernel_rfl) (by kernel_rfl) (by kernel_rfl) (fun _ _ _ h => h) (Or.inr ⟨by rfl, rfl⟩) (by assumption) ?_
                try simp only [Act.put, List.setIfInBounds_toArray, List.set_cons_zero, List.set_cons_succ]
                refine wpAnyH_takeL (i := 11) (v := undef) rfl (by kernel_rfl) (by kernel_rfl) (by kernel_rfl) (fun _ _ _ h => h) (Or.inr ⟨by rfl, rfl⟩) (by assumption) ?_
                try simp only [Act.put, List.setIfInBounds_toArray, List.set_cons_zero, List.set_cons_succ]
                refine wpAnyH_takeL (i := 12) (v := undef) rfl (by kernel_rfl) (by kernel_rfl) (by kernel_rfl) (fun _ _ _ h => h) (Or.inr ⟨by rfl, rfl⟩) (by assumption) ?_
                try simp only [Act.put, List.setIfInBounds_toArray, List.set_cons_zero, List.set_cons_succ]
                refine wpAnyH_takeL (i := 13) (v := undef) rfl (by kernel_rfl) (by kernel_rfl) (by kernel_rfl) (fun _ _ _ h => h) (Or.inr ⟨by rfl, rfl⟩) (by assumption) ?_
                try simp only [Act.put, List.setIfInBounds_toArray, List.set_cons_zero, List.set_cons_succ]
                refine wpAnyH_takeL (i := 14) (v := undef) rfl (by kernel_rfl) (by kernel_rfl) (by kernel_rfl) (fun _ _ _ h => h) (Or.inr ⟨by rfl, rfl⟩) (by assumption) ?_
                try simp only [Act.put, List.setIfInBounds_toArray, List.set_cons_zero, List.set_cons_succ]
                refine wpAnyH_takeL (i := 15) (v := undef) rfl (by kernel_rfl) (by kernel_rfl) (by kernel_rfl) (fun _ _ _ h => h) (Or.inr ⟨by rfl, rfl⟩) (by assumption) ?_
                try simp only [Act.put, List.setIfInBounds_toArray, List.set_cons_zero, List.set_cons_succ]
                refine wpAnyH_takeL (i := 16) (v := undef) rfl (by kernel_rfl) (by kernel_rfl) (by kernel_rfl) (fun _ _ _ h => h) (Or.inr ⟨by rfl, rfl⟩) (by assumption) ?_
                try simp only [Act.put, List.setIfInBounds_toArray, List.set_cons_zero, List.set_cons_succ]
                refine wpAnyH_takeL (i := 17) (v := undef) rfl (by kernel_rfl) (by kernel_rfl) (by kernel_rfl) (fun _ _ _ h => h) (Or.inr ⟨by rfl, rfl⟩) (by assumption) ?_
                try simp only [Act.put, List.setIfInBounds_toArray, List.set_cons_zero, List.set_cons_succ]
                refine wpAnyH_takeL (i := 18) (v := undef) rfl (by kernel_rfl) (by kernel_rfl) (by kernel_rfl) (fun _ _ _ h => h) (Or.inr ⟨by rfl, rfl⟩) (by assumption) ?_
                try simp only [Act.put, List.setIfInBounds_toArray, List.set_cons_zero, List.set_cons_succ]
                refine wpAnyH_takeL (i := 19) (v := undef) rfl (by kernel_rfl) (by kernel_rfl) (by kernel_rfl) (fun _ _ _ h => h) (Or.inr ⟨by rfl, rfl⟩) (by assumption) ?_
                try simp only [Act.put, List.setIfInBounds_toArray, List.set_cons_zero, List.set_cons_succ]
                refine wpAnyH_takeL (i := 20) (v := undef) rfl (by kernel_rfl) (by kernel_rfl) (by kernel_rfl) (fun _ _ _ h => h) (Or.inr ⟨by rfl, rfl⟩) (by assumption) ?_
                try simp only [Act.put, List.setIfInBounds_toArray, List.set_cons_zero, List.set_cons_succ]
                refine wpAnyH_takeL (i := 21) (v := undef) rfl (by kernel_rfl) (by kernel_rfl) (by kernel_rfl) (fun _ _ _ h => h) (Or.inr ⟨by rfl, rfl⟩) (by assumption) ?_
                try simp only [Act.put, List.setIfInBounds_toArray, List.set_cons_zero, List.set_cons_succ]
                refine wpAnyH_takeL (i := 22) (v := undef) rfl (by kernel_rfl) (by kernel_rfl) (by kernel_rfl) (fun _ _ _ h => h) (Or.inr ⟨by rfl, rfl⟩) (by assumption) ?_
                try simp only [Act.put, List.setIfInBounds_toArray, List.set_cons_zero, List.set_cons_succ]
                refine wpAnyH_takeL (i := 23) (v := undef) rfl (by kernel_rfl) (by kernel_rfl) (by kernel_rfl) (fun _ _ _ h => h) (Or.inr ⟨by rfl, rfl⟩) (by assumption) ?_
                try simp only [Act.put, List.setIfInBounds_toArray, List.set_cons_zero, List.set_cons_succ]
                refine wpAnyH_takeL (i := 24) (v := undef) rfl (by kernel_rfl) (by kernel_rfl) (by kernel_rfl) (fun _ _ _ h => h) (Or.inr ⟨by rfl, rfl⟩) (by assumption) ?_
                try simp only [Act.put, List.setIfInBounds_toArray, List.set_cons_zero, List.set_cons_succ]
                refine wpAnyH_takeL (i := 25) (v := undef) rfl (by kernel_rfl) (by kernel_rfl) (by kernel_rfl) (fun _ _ _ h => h) (Or.inr ⟨by rfl, rfl⟩) (by assumption) ?_
                try simp only [Act.put, List.setIfInBounds_toArray, List.set_cons_zero, List.set_cons_succ]
                refine wpAnyH_takeL (i := 26) (v := undef) rfl (by kernel_rfl) (by kernel_rfl) (by kernel_rfl) (fun _ _ _ h => h) (Or.inr ⟨by rfl, rfl⟩) (by assumption) ?_
                try simp only [Act.put, List.setIfInBounds_toArray, List.set_cons_zero, List.set_cons_succ]
                refine wpAnyH_takeL (i := 27) (v := undef) rfl (by kernel_rfl) (by kernel_rfl) (by kernel_rfl) (fun _ _ _ h => h) (Or.inr ⟨by rfl, rfl⟩) (by assumption) ?_
                try simp only [Act.put, List.setIfInBounds_toArray, List.set_cons_zero, List.set_cons_succ]
                refine wpAnyH_takeL (i := 28) (v := undef) rfl (by kernel_rfl) (by kernel_rfl) (by kernel_rfl) (fun _ _ _ h => h) (Or.inr ⟨by rfl, rfl⟩) (by assumption) ?_
                try simp only [Act.put, List.setIfInBounds_toArray, List.set_cons_zero, List.set_cons_succ]
                refine wpAnyH_takeL (i := 29) (v := undef) rfl (by kernel_rfl) (by kernel_rfl) (by kernel_rfl) (fun _ _ _ h => h) (Or.inr ⟨by rfl, rfl⟩) (by assumption) ?_
                try simp only [Act.put, List.setIfInBounds_toArray, List.set_cons_zero, List.set_cons_succ]
                refine wpAnyH_takeL (i := 30) (v := undef) rfl (by kernel_rfl) (by kernel_rfl) (by kernel_rfl) (fun _ _ _ h => h) (Or.inr ⟨by rfl, rfl⟩) (by assumption) ?_
                try simp only [Act.put, List.setIfInBounds_toArray, List.set_cons_zero, List.set_cons_succ]
                refine wpAnyH_takeL (i := 31) (v := undef) rfl (by kernel_rfl) (by kernel_rfl) (by kernel_rfl) (fun _ _ _ h => h) (Or.inr ⟨by rfl, rfl⟩) (by assumption) ?_
                try simp only [Act.put, List.setIfInBounds_toArray, List.set_cons_zero, List.set_cons_succ]
                refine wpAnyH_takeL (i := 32) (v := undef) rfl (by kernel_rfl) (by kernel_rfl) (by kernel_rfl) (fun _ _ _ h => h) (Or.inr ⟨by rfl, rfl⟩) (by assumption) ?_
                try simp only [Act.put, List.setIfInBounds_toArray, List.set_cons_zero, List.set_cons_succ]
                refine wpAnyH_takeL (i := 33) (v := ?vhy194) rfl (by kernel_rfl) (by kernel_rfl) (by kernel_rfl) (fun _ _ _ h => h) (Or.inl ⟨by rfl, ?hy194⟩) (by assumption) ?rhy194
                case hy194 => ((intro w hSw; (try dsimp only at hSw); go_simp); try with_reducible rfl)
                try simp only [Act.put, List.setIfInBounds_toArray, List.set_cons_zero, List.set_cons_succ]
                refine wpAnyH_takeL (i := 34) (v := ?vhy195) rfl (by kernel_rfl) (by kernel_rfl) (by kernel_rfl) (fun _ _ _ h => h) (Or.inl ⟨by rfl, ?hy195⟩) (by assumption) ?rhy195
                case hy195 => ((intro w hSw; (try dsimp only at hSw); go_simp); try with_reducible rfl)
                try simp only [Act.put, List.setIfInBounds_toArray, List.set_cons_zero, List.set_cons_succ]
                refine wpAnyH_takeL (i := 35) (v := ?vhy196) rfl (by kernel_rfl) (by kernel_rfl) (by kernel_rfl) (fun _ _ _ h => h) (Or.inl ⟨by rfl, ?hy196⟩) (by assumption) ?rhy196
                case hy196 => ((intro w hSw; (try dsimp only at hSw); go_simp); try with_reducible rfl)
                try simp only [Act.put, List.setIfInBounds_toArray, List.set_cons_zero, List.set_cons_succ]
                refine wpAnyH_done (by kernel_rfl) ?_ _
                refine NoPanic.normal ?_
                clear hHeld
                cases q0 with
                | true =>
                  go_wp2_with fail
                  refine (hHa.out _ hbw).mono ?_
                  rintro e w9 ⟨rfl, hb3⟩
                  replace hbw := hbw.trans (hb3.mono hbw.size)
                  clear hb3
                  go_wp2_with fail
                  refine (hHw.out _ hbw).mono ?_
                  rintro e w10 ⟨rfl, hb3⟩
                  replace hbw := hbw.trans (hb3.mono hbw.size)
                  clear hb3
                  cases h0v with
                  | true =>
                    replace hbf := Lib.hid hbw
                    clear hbw
                    go_wp2
                    exact ⟨⟨b, by simp, hb1'.2, by rw [hbl.out]; rfl, hbf.out⟩, by simp [intOf]; have := hb.out; omega⟩
                  | false =>
                    replace hbf := Lib.hid hbw
                    clear hbw
                    go_wp2
                    exact ⟨⟨b, by simp, hb1'.2, by rw [hbl.out]; rfl, hbf.out⟩, by simp [intOf]; have := hb.out; omega⟩
                | false =>
                  go_wp2_with fail
                  refine (hHa.out _ hbw).mono ?_
                  rintro e w9 ⟨rfl, hb3⟩
                  replace hbw := hbw.trans (hb3.mono hbw.size)
                  clear hb3
                  go_wp2_with fail
                  refine (hHw.out _ hbw).mono ?_
                  rintro e w10 ⟨rfl, hb3⟩
                  replace hbw := hbw.trans (hb3.mono hbw.size)
                  clear hb3
                  cases h0v with
                  | true =>
                    replace hbf := Lib.hid hbw
                    clear hbw
                    go_wp2
                    exact ⟨⟨b, by simp, hb1'.2, by rw [hbl.out]; rfl, hbf.out⟩, by simp [intOf]; have := hb.out; omega⟩
                  | false =>
                    replace hbf := Lib.hid hbw
                    clear hbw
                    go_wp2
                    exact ⟨⟨b, by simp, hb1'.2, by rw [hbl.out]; rfl, hbf.out⟩, by simp [intOf]; have := hb.out; omega⟩
              | true =>
                cases fb with
                | true =>
                  cases fa with
                  | false =>
                    refine wp_region_noPanic ?_
                    refine wp_region_held_drew (S := fun W => (W.cell? ⟨w.heap.size + 1, b, none⟩ = some (.bool true) ∧ W.cell? ⟨w.heap.size + 1, a, none⟩ = some (.bool false)) ∧ W.cell? ⟨w.heap.size, b, none⟩ = some (.int .i64 cb) ∧ W.cell? ⟨w.heap.size, a, none⟩ = some (.int .i64 ca)) (by kernel_rfl) (hS.out _ hbw.drew) (fun hHeld => ?_)
                    replace hbw := hbw.drew
                    refine wpAnyH_takeL (i := 0) (v := ?vhy197) rfl (by kernel_rfl) (by kernel_rfl) (by kernel_rfl) (fun _ _ _ h => h) (Or.inl ⟨by rfl, ?hy197⟩) (by assumption) ?rhy197
                    case hy197 => ((intro w hSw; (try dsimp only at hSw); go_simp); try with_reducible rfl)
                    try simp only [Act.put, List.setIfInBounds_toArray, List.set_cons_zero, List.set_cons_succ]
                    refine wpAnyH_takeL (i := 1) (v := ?vhy198) rfl (by kernel_rfl) (by kernel_rfl) (by kernel_rfl) (fun _ _ _ h => h) (Or.inl ⟨by rfl, ?hy198⟩) (by assumption) ?rhy198
                    case hy198 => ((intro w hSw; (try dsimp only at hSw); go_simp); try with_reducible rfl)
                    try simp only [Act.put, List.setIfInBounds_toArray, List.set_cons_zero, List.set_cons_succ]
                    refine wpAnyH_ready (rs := [2]) (by kernel_rfl) (by simp) ?_
                    refine AllReadyH.consL (i := 2) rfl (fun K hK => ?_) AllReadyH.nil
                    go_simp
                    refine (hHb.out _ hbw).mono ?_
                    rintro e w8 ⟨rfl, hb3⟩
                    replace hbw := hbw.trans (hb3.mono hbw.size)
                    refine hK.out _ _ (hS.out _ hbw) (fun hHeld => ?_)
                    clear hK hb3
                    refine wpAnyH_takeL (i := 3) (v := ?vhy199) rfl (by kernel_rfl) (by kernel_rfl) (by kernel_rfl) (fun _ _ _ h => h) (Or.inl ⟨by rfl, ?hy199⟩) (by assumption) ?rhy199
                    case hy199 => ((intro w hSw; (try dsimp only at hSw); go_simp); try with_reducible rfl)
                    try simp only [Act.put, List.setIfInBounds_toArray, List.set_cons_zero, List.set_cons_succ]
                    refine wpAnyH_takeL (i := 4) (v := ?vhy200) rfl (by kernel_rfl) (by kernel_rfl) (by kernel_rfl) (fun _ _ _ h => h) (Or.inl ⟨by rfl, ?hy200⟩) (by assumption) ?rhy200
                    case hy200 => ((intro w hSw; (try dsimp only at hSw); go_simp); try with_reducible rfl)
                    try simp only [Act.put, List.setIfInBounds_toArray, List.set_cons_zero, List.set_cons_succ]
                    refine wpAnyH_takeL (i := 5) (v := ?vhy201) rfl (by kernel_rfl) (by kernel_rfl) (by kernel_rfl) (fun _ _ _ h => h) (Or.inl ⟨by rfl, ?hy201⟩) (by assumption) ?rhy201
                    case hy201 => ((intro w hSw; (try dsimp only at hSw); go_simp); try with_reducible rfl)
                    try simp only [Act.put, List.setIfInBounds_toArray, List.set_cons_zero, List.set_cons_succ]
                    refine wpAnyH_takeL (i := 6) (v := ?vhy202) rfl (by kernel_rfl) (by kernel_rfl) (by kernel_rfl) (fun _ _ _ h => h) (Or.inl ⟨by rfl, ?hy202⟩) (by assumption) ?rhy202
                    case hy202 => ((intro w hSw; (try dsimp only at hSw); go_simp); try with_reducible rfl)
                    try simp only [Act.put, List.setIfInBounds_toArray, List.set_cons_zero, List.set_cons_succ]
                    refine wpAnyH_takeL (i := 7) (v := ?vhy203) rfl (by kernel_rfl) (by kernel_rfl) (by kernel_rfl) (fun _ _ _ h => h) (Or.inl ⟨by rfl, ?hy203⟩) (by assumption) ?rhy203
                    case hy203 => ((intro w hSw; (try dsimp only at hSw); go_simp); try with_reducible rfl)
                    try simp only [Act.put, List.setIfInBounds_toArray, List.set_cons_zero, List.set_cons_succ]
                    refine wpAnyH_takeL (i := 8) (v := ?vhy204) rfl (by kernel_rfl) (by kernel_rfl) (by kernel_rfl) (fun _ _ _ h => h) (Or.inl ⟨by rfl, ?hy204⟩) (by assumption) ?rhy204
                    case hy204 => ((intro w hSw; (try dsimp only at hSw); go_simp); try with_reducible rfl)
                    try simp only [Act.put, List.setIfInBounds_toArray, List.set_cons_zero, List.set_cons_succ]
                    refine wpAnyH_takeL (i := 9) (v := ?vhy205) rfl (by kernel_rfl) (by kernel_rfl) (by kernel_rfl) (fun _ _ _ h => h) (Or.inl ⟨by rfl, ?hy205⟩) (by assumption) ?rhy205
                    case hy205 => ((intro w hSw; (try dsimp only at hSw); go_simp); try with_reducible rfl)
                    try simp only [Act.put, List.setIfInBounds_toArray, List.set_cons_zero, List.set_cons_succ]
                    refine wpAnyH_takeL (i := 10) (v := ?vhy206) rfl (by kernel_rfl) (by kernel_rfl) (by kernel_rfl) (fun _ _ _ h => h) (Or.inl ⟨by rfl, ?hy206⟩) (by assumption) ?rhy206
                    case hy206 => ((intro w hSw; (try dsimp only at hSw); go_simp); try with_reducible rfl)
                    try simp only [Act.put, List.setIfInBounds_toArray, List.set_cons_zero, List.set_cons_succ]
                    refine wpAnyH_takeL (i := 11) (v := ?vhy207) rfl (by kernel_rfl) (by kernel_rfl) (by kernel_rfl) (fun _ _ _ h => h) (Or.inl ⟨by rfl, ?hy207⟩) (by assumption) ?rhy207
                    case hy207 => ((intro w hSw; (try dsimp only at hSw); go_simp); try with_reducible rfl)
                    try simp only [Act.put, List.setIfInBounds_toArray, List.set_cons_zero, List.set_cons_succ]
                    refine wpAnyH_takeL (i := 12) (v := ?vhy208) rfl (by kernel_rfl) (by kernel_rfl) (by kernel_rfl) (fun _ _ _ h => h) (Or.inl ⟨by rfl, ?hy208⟩) (by assumption) ?rhy208
                    case hy208 => ((intro w hSw; (try dsimp only at hSw); go_simp); try with_reducible rfl)
                    try simp only [Act.put, List.setIfInBounds_toArray, List.set_cons_zero, List.set_cons_succ]
                    refine wpAnyH_takeL (i := 13) (v := ?vhy209) rfl (by kernel_rfl) (by kernel_rfl) (by kernel_rfl) (fun _ _ _ h => h) (Or.inl ⟨by rfl, ?hy209⟩) (by assumption) ?rhy209
                    case hy209 => ((intro w hSw; (try dsimp only at hSw); go_simp); try with_reducible rfl)
                    try simp only [Act.put, List.setIfInBounds_toArray, List.set_cons_zero, List.set_cons_succ]
                    refine wpAnyH_takeL (i := 14) (v := ?vhy210) rfl (by kernel_rfl) (by kernel_rfl) (by kernel_rfl) (fun _ _ _ h => h) (Or.inl ⟨by rfl, ?hy210⟩) (by assumption) ?rhy210
                    case hy210 => ((intro w hSw; (try dsimp only at hSw); go_simp); try with_reducible rfl)
                    try simp only [Act.put, List.setIfInBounds_toArray, List.set_cons_zero, List.set_cons_succ]
                    refine wpAnyH_takeL (i := 15) (v := ?vhy211) rfl (by kernel_rfl) (by kernel_rfl) (by kernel_rfl) (fun _ _ _ h => h) (Or.inl ⟨by rfl, ?hy211⟩) (by assumption) ?rhy211
                    case hy211 => ((intro w hSw; (try dsimp only at hSw); go_simp); try with_reducible rfl)
                    try simp only [Act.put, List.setIfInBounds_toArray, List.set_cons_zero, List.set_cons_succ]
                    refine wpAnyH_takeL (i := 16) (v := undef) rfl (by kernel_rfl) (by kernel_rfl) (by kernel_rfl) (fun _ _ _ h => h) (Or.inr ⟨by rfl, rfl⟩) (by assumption) ?_
                    try simp only [Act.put, List.setIfInBounds_toArray, List.set_cons_zero, List.set_cons_succ]
                    refine wpAnyH_takeL (i := 17) (v := undef) rfl (by kernel_rfl) (by kernel_rfl) (by kernel_rfl) (fun _ _ _ h => h) (Or.inr ⟨by rfl, rfl⟩) (by assumption) ?_
                    try simp only [Act.put, List.setIfInBounds_toArray, List.set_cons_zero, List.set_cons_succ]
                    refine wpAnyH_takeL (i := 18) (v := undef) rfl (by kernel_rfl) (by kernel_rfl) (by kernel_rfl) (fun _ _ _ h => h) (Or.inr ⟨by rfl, rfl⟩) (by assumption) ?_
                    try simp only [Act.put, List.setIfInBounds_toArray, List.set_cons_zero, List.set_cons_succ]
                    refine wpAnyH_takeL (i := 19) (v := undef) rfl (by kernel_rfl) (by kernel_rfl) (by kernel_rfl) (fun _ _ _ h => h) (Or.inr ⟨by rfl, rfl⟩) (by assumption) ?_
                    try simp only [Act.put, List.setIfInBounds_toArray, List.set_cons_zero, List.set_cons_succ]
                    refine wpAnyH_takeL (i := 20) (v := undef) rfl (by kernel_rfl) (by kernel_rfl) (by kernel_rfl) (fun _ _ _ h => h) (Or.inr ⟨by rfl, rfl⟩) (by assumption) ?_
                    try simp only [Act.put, List.setIfInBounds_toArray, List.set_cons_zero, List.set_cons_succ]
                    refine wpAnyH_takeL (i := 21) (v := undef) rfl (by kernel_rfl) (by kernel_rfl) (by kernel_rfl) (fun _ _ _ h => h) (Or.inr ⟨by rfl, rfl⟩) (by assumption) ?_
                    try simp only [Act.put, List.setIfInBounds_toArray, List.set_cons_zero, List.set_cons_succ]
                    refine wpAnyH_takeL (i := 22) (v := undef) rfl (by kernel_rfl) (by kernel_rfl) (by kernel_rfl) (fun _ _ _ h => h) (Or.inr ⟨by rfl, rfl⟩) (by assumption) ?_
                    try simp only [Act.put, List.setIfInBounds_toArray, List.set_cons_zero, List.set_cons_succ]
                    refine wpAnyH_takeL (i := 23) (v := undef) rfl (by kernel_rfl) (by kernel_rfl) (by kernel_rfl) (fun _ _ _ h => h) (Or.inr ⟨by rfl, rfl⟩) (by assumption) ?_
                    try simp only [Act.put, List.setIfInBounds_toArray, List.set_cons_zero, List.set_cons_succ]
                    refine wpAnyH_takeL (i := 24) (v := undef) rfl (by kernel_rfl) (by kernel_rfl) (by kernel_rfl) (fun _ _ _ h => h) (Or.inr ⟨by rfl, rfl⟩) (by assumption) ?_
                    try simp only [Act.put, List.setIfInBounds_toArray, List.set_cons_zero, List.set_cons_succ]
                    refine wpAnyH_takeL (i := 25) (v := undef) rfl (by kernel_rfl) (by kernel_rfl) (by kernel_rfl) (fun _ _ _ h => h) (Or.inr ⟨by rfl, rfl⟩) (by assumption) ?_
                    try simp only [Act.put, List.setIfInBounds_toArray, List.set_cons_zero, List.set_cons_succ]
                    refine wpAnyH_takeL (i := 26) (v := undef) rfl (by kernel_rfl) (by kernel_rfl) (by kernel_rfl) (fun _ _ _ h => h) (Or.inr ⟨by rfl, rfl⟩) (by assumption) ?_
                    try simp only [Act.put, List.setIfInBounds_toArray, List.set_cons_zero, List.set_cons_succ]
                    refine wpAnyH_takeL (i := 27) (v := undef) rfl (by kernel_rfl) (by kernel_rfl) (by kernel_rfl) (fun _ _ _ h => h) (Or.inr ⟨by rfl, rfl⟩) (by assumption) ?_
                    try simp only [Act.put, List.setIfInBounds_toArray, List.set_cons_zero, List.set_cons_succ]
                    refine wpAnyH_takeL (i := 28) (v := undef) rfl (by kernel_rfl) (by kernel_rfl) (by kernel_rfl) (fun _ _ _ h => h) (Or.inr ⟨by rfl, rfl⟩) (by assumption) ?_
                    try simp only [Act.put, List.setIfInBounds_toArray, List.set_cons_zero, List.set_cons_succ]
                    refine wpAnyH_takeL (i := 29) (v := undef) rfl (by kernel_rfl) (by kernel_rfl) (by kernel_rfl) (fun _ _ _ h => h) (Or.inr ⟨by rfl, rfl⟩) (by assumption) ?_
                    try simp only [Act.put, List.setIfInBounds_toArray, List.set_cons_zero, List.set_cons_succ]
                    refine wpAnyH_takeL (i := 30) (v := undef) rfl (by kernel_rfl) (by kernel_rfl) (by kernel_rfl) (fun _ _ _ h => h) (Or.inr ⟨by rfl, rfl⟩) (by assumption) ?_
                    try simp only [Act.put, List.setIfInBounds_toArray, List.set_cons_zero, List.set_cons_succ]
                    refine wpAnyH_takeL (i := 31) (v := undef) rfl (by kernel_rfl) (by kernel_rfl) (by kernel_rfl) (fun _ _ _ h => h) (Or.inr ⟨by rfl, rfl⟩) (by assumption) ?_
                    try simp only [Act.put, List.setIfInBounds_toArray, List.set_cons_zero, List.set_cons_succ]
                    refine wpAnyH_takeL (i := 32) (v := ?vhy212) rfl (by kernel_rfl) (by kernel_rfl) (by kernel_rfl) (fun _ _ _ h => h) (Or.inl ⟨by rfl, ?hy212⟩) (by assumption) ?rhy212
                    case hy212 => ((intro w hSw; (try dsimp only at hSw); go_simp); try with_reducible rfl)
                    try simp only [Act.put, List.setIfInBounds_toArray, List.set_cons_zero, List.set_cons_succ]
                    refine wpAnyH_takeL (i := 33) (v := ?vhy213) rfl (by kernel_rfl) (by kernel_rfl) (by kernel_rfl) (fun _ _ _ h => h) (Or.inl ⟨by rfl, ?hy213⟩) (by assumption) ?rhy213
                    case hy213 => ((intro w hSw; (try dsimp only at hSw); go_simp); try with_reducible rfl)
                    try simp only [Act.put, List.setIfInBounds_toArray, List.set_cons_zero, List.set_cons_succ]
                    refine wpAnyH_takeL (i := 34) (v := ?vhy214) rfl (by kernel_rfl) (by kernel_rfl) (by kernel_rfl) (fun _ _ _ h => h) (Or.inl ⟨by rfl, ?hy214⟩) (by assumption) ?rhy214
                    case hy214 => ((intro w hSw; (try dsimp only at hSw); go_simp); try with_reducible rfl)
                    try simp only [Act.put, List.setIfInBounds_toArray, List.set_cons_zero, List.set_cons_succ]
                    refine wpAnyH_takeL (i := 35) (v := ?vhy215) rfl (by kernel_rfl) (by kernel_rfl) (by kernel_rfl) (fun _ _ _ h => h) (Or.inl ⟨by rfl, ?hy215⟩) (by assumption) ?rhy215
                    case hy215 => ((intro w hSw; (try dsimp only at hSw); go_simp); try with_reducible rfl)
                    try simp only [Act.put, List.setIfInBounds_toArray, List.set_cons_zero, List.set_cons_succ]
                    refine wpAnyH_done (by kernel_rfl) ?_ _
                    refine NoPanic.normal ?_
                    clear hHeld
                    cases q0 with
                    | true =>
                      go_wp2_with fail
                      refine (hHa.out _ hbw).mono ?_
                      rintro e w9 ⟨rfl, hb3⟩
                      replace hbw := hbw.trans (hb3.mono hbw.size)
                      clear hb3
                      go_wp2_with fail
                      refine (hHw.out _ hbw).mono ?_
                      rintro e w10 ⟨rfl, hb3⟩
                      replace hbw := hbw.trans (hb3.mono hbw.size)
                      clear hb3
                      cases h0v with
                      | true =>
                        replace hbf := Lib.hid hbw
                        clear hbw
                        go_wp2
                        exact ⟨⟨b, by simp, hb1'.2, by rw [hbl.out]; rfl, hbf.out⟩, by simp [intOf]; have := hb.out; omega⟩
                      | false =>
                        exact absurd F2.out (by simp)
                    | false =>
                      go_wp2_with fail
                      refine (hHa.out _ hbw).mono ?_
                      rintro e w9 ⟨rfl, hb3⟩
                      replace hbw := hbw.trans (hb3.mono hbw.size)
                      clear hb3
                      go_wp2_with fail
                      refine (hHw.out _ hbw).mono ?_
                      rintro e w10 ⟨rfl, hb3⟩
                      replace hbw := hbw.trans (hb3.mono hbw.size)
                      clear hb3
                      cases h0v with
                      | true =>
                        replace hbf := Lib.hid hbw
                        clear hbw
                        go_wp2
                        exact ⟨⟨b, by simp, hb1'.2, by rw [hbl.out]; rfl, hbf.out⟩, by simp [intOf]; have := hb.out; omega⟩
                      | false =>
                        exact absurd F2.out (by simp)
                  | true =>
                    cases d with
                    | true =>
                      refine wp_region_noPanic ?_
                      refine wp_region_held_drew (S := fun W => (W.cell? ⟨w.heap.size + 1, b, none⟩ = some (.bool true) ∧ W.cell? ⟨w.heap.size + 1, a, none⟩ = some (.bool true)) ∧ W.cell? ⟨w.heap.size, b, none⟩ = some (.int .i64 cb) ∧ W.cell? ⟨w.heap.size, a, none⟩ = some (.int .i64 ca)) (by kernel_rfl) (hS.out _ hbw.drew) (fun hHeld => ?_)
                      replace hbw := hbw.drew
                      refine wpAnyH_takeL (i := 0) (v := ?vhy216) rfl (by kernel_rfl) (by kernel_rfl) (by kernel_rfl) (fun _ _ _ h => h) (Or.inl ⟨by rfl, ?hy216⟩) (by assumption) ?rhy216
                      case hy216 => ((intro w hSw; (try dsimp only at hSw); go_simp); try with_reducible rfl)
                      try simp only [Act.put, List.setIfInBounds_toArray, List.set_cons_zero, List.set_cons_succ]
                      refine wpAnyH_takeL (i := 1) (v := ?vhy217) rfl (by kernel_rfl) (by kernel_rfl) (by kernel_rfl) (fun _ _ _ h => h) (Or.inl ⟨by rfl, ?hy217⟩) (by assumption) ?rhy217
                      case hy217 => ((intro w hSw; (try dsimp only at hSw); go_simp); try with_reducible rfl)
                      try simp only [Act.put, List.setIfInBounds_toArray, List.set_cons_zero, List.set_cons_succ]
                      refine wpAnyH_ready (rs := [2]) (by kernel_rfl) (by simp) ?_
                      refine AllReadyH.consL (i := 2) rfl (fun K hK => ?_) AllReadyH.nil
                      go_simp
                      refine (hHb.out _ hbw).mono ?_
                      rintro e w8 ⟨rfl, hb3⟩
                      replace hbw := hbw.trans (hb3.mono hbw.size)
                      refine hK.out _ _ (hS.out _ hbw) (fun hHeld => ?_)
                      clear hK hb3
                      refine wpAnyH_takeL (i := 3) (v := ?vhy218) rfl (by kernel_rfl) (by kernel_rfl) (by kernel_rfl) (fun _ _ _ h => h) (Or.inl ⟨by rfl, ?hy218⟩) (by assumption) ?rhy218
                      case hy218 => ((intro w hSw; (try dsimp only at hSw); go_simp); try with_reducible rfl)
                      try simp only [Act.put, List.setIfInBounds_toArray, List.set_cons_zero, List.set_cons_succ]
                      refine wpAnyH_takeL (i := 4) (v := ?vhy219) rfl (by kernel_rfl) (by kernel_rfl) (by kernel_rfl) (fun _ _ _ h => h) (Or.inl ⟨by rfl, ?hy219⟩) (by assumption) ?rhy219
                      case hy219 => ((intro w hSw; (try dsimp only at hSw); go_simp); try with_reducible rfl)
                      try simp only [Act.put, List.setIfInBounds_toArray, List.set_cons_zero, List.set_cons_succ]
                      refine wpAnyH_takeL (i := 5) (v := ?vhy220) rfl (by kernel_rfl) (by kernel_rfl) (by kernel_rfl) (fun _ _ _ h => h) (Or.inl ⟨by rfl, ?hy220⟩) (by assumption) ?rhy220
                      case hy220 => ((intro w hSw; (try dsimp only at hSw); go_simp); try with_reducible rfl)
                      try simp only [Act.put, List.setIfInBounds_toArray, List.set_cons_zero, List.set_cons_succ]
                      refine wpAnyH_takeL (i := 6) (v := ?vhy221) rfl (by kernel_rfl) (by kernel_rfl) (by kernel_rfl) (fun _ _ _ h => h) (Or.inl ⟨by rfl, ?hy221⟩) (by assumption) ?rhy221
                      case hy221 => ((intro w hSw; (try dsimp only at hSw); go_simp); try with_reducible rfl)
                      try simp only [Act.put, List.setIfInBounds_toArray, List.set_cons_zero, List.set_cons_succ]
                      refine wpAnyH_takeL (i := 7) (v := ?vhy222) rfl (by kernel_rfl) (by kernel_rfl) (by kernel_rfl) (fun _ _ _ h => h) (Or.inl ⟨by rfl, ?hy222⟩) (by assumption) ?rhy222
                      case hy222 => ((intro w hSw; (try dsimp only at hSw); go_simp); try with_reducible rfl)
                      try simp only [Act.put, List.setIfInBounds_toArray, List.set_cons_zero, List.set_cons_succ]
                      refine wpAnyH_takeL (i := 8) (v := ?vhy223) rfl (by kernel_rfl) (by kernel_rfl) (by kernel_rfl) (fun _ _ _ h => h) (Or.inl ⟨by rfl, ?hy223⟩) (by assumption) ?rhy223
                      case hy223 => ((intro w hSw; (try dsimp only at hSw); go_simp); try with_reducible rfl)
                      try simp only [Act.put, List.setIfInBounds_toArray, List.set_cons_zero, List.set_cons_succ]
                      refine wpAnyH_takeL (i := 9) (v := ?vhy224) rfl (by kernel_rfl) (by kernel_rfl) (by kernel_rfl) (fun _ _ _ h => h) (Or.inl ⟨by rfl, ?hy224⟩) (by assumption) ?rhy224
                      case hy224 => ((intro w hSw; (try dsimp only at hSw); go_simp); try with_reducible rfl)
                      try simp only [Act.put, List.setIfInBounds_toArray, List.set_cons_zero, List.set_cons_succ]
                      refine wpAnyH_takeL (i := 10) (v := ?vhy225) rfl (by kernel_rfl) (by kernel_rfl) (by kernel_rfl) (fun _ _ _ h => h) (Or.inl ⟨by rfl, ?hy225⟩) (by assumption) ?rhy225
                      case hy225 => ((intro w hSw; (try dsimp only at hSw); go_simp); try with_reducible rfl)
                      try simp only [Act.put, List.setIfInBounds_toArray, List.set_cons_zero, List.set_cons_succ]
                      refine wpAnyH_takeL (i := 11) (v := ?vhy226) rfl (by kernel_rfl) (by kernel_rfl) (by kernel_rfl) (fun _ _ _ h => h) (Or.inl ⟨by rfl, ?hy226⟩) (by assumption) ?rhy226
                      case hy226 => ((intro w hSw; (try dsimp only at hSw); go_simp); try with_reducible rfl)
                      try simp only [Act.put, List.setIfInBounds_toArray, List.set_cons_zero, List.set_cons_succ]
                      refine wpAnyH_takeL (i := 12) (v := ?vhy227) rfl (by kernel_rfl) (by kernel_rfl) (by kernel_rfl) (fun _ _ _ h => h) (Or.inl ⟨by rfl, ?hy227⟩) (by assumption) ?rhy227
                      case hy227 => ((intro w hSw; (try dsimp only at hSw); go_simp); try with_reducible rfl)
                      try simp only [Act.put, List.setIfInBounds_toArray, List.set_cons_zero, List.set_cons_succ]
                      refine wpAnyH_takeL (i := 13) (v := ?vhy228) rfl (by kernel_rfl) (by kernel_rfl) (by kernel_rfl) (fun _ _ _ h => h) (Or.inl ⟨by rfl, ?hy228⟩) (by assumption) ?rhy228
                      case hy228 => ((intro w hSw; (try dsimp only at hSw); go_simp); try with_reducible rfl)
                      try simp only [Act.put, List.setIfInBounds_toArray, List.set_cons_zero, List.set_cons_succ]
                      refine wpAnyH_takeL (i := 14) (v := ?vhy229) rfl (by kernel_rfl) (by kernel_rfl) (by kernel_rfl) (fun _ _ _ h => h) (Or.inl ⟨by rfl, ?hy229⟩) (by assumption) ?rhy229
                      case hy229 => ((intro w hSw; (try dsimp only at hSw); go_simp); try with_reducible rfl)
                      try simp only [Act.put, List.setIfInBounds_toArray, List.set_cons_zero, List.set_cons_succ]
                      refine wpAnyH_takeL (i := 15) (v := ?vhy230) rfl (by kernel_rfl) (by kernel_rfl) (by kernel_rfl) (fun _ _ _ h => h) (Or.inl ⟨by rfl, ?hy230⟩) (by assumption) ?rhy230
                      case hy230 => ((intro w hSw; (try dsimp only at hSw); go_simp); try with_reducible rfl)
                      try simp only [Act.put, List.setIfInBounds_toArray, List.set_cons_zero, List.set_cons_succ]
                      refine wpAnyH_takeL (i := 16) (v := ?vhy231) rfl (by kernel_rfl) (by kernel_rfl) (by kernel_rfl) (fun _ _ _ h => h) (Or.inl ⟨by rfl, ?hy231⟩) (by assumption) ?rhy231
                      case hy231 => ((intro w hSw; (try dsimp only at hSw); go_simp); try with_reducible rfl)
                      try simp only [Act.put, List.setIfInBounds_toArray, List.set_cons_zero, List.set_cons_succ]
                      refine wpAnyH_takeL (i := 17) (v := ?vhy232) rfl (by kernel_rfl) (by kernel_rfl) (by kernel_rfl) (fun _ _ _ h => h) (Or.inl ⟨by rfl, ?hy232⟩) (by assumption) ?rhy232
                      case hy232 => ((intro w hSw; (try dsimp only at hSw); go_simp); try with_reducible rfl)
                      try simp only [Act.put, List.setIfInBounds_toArray, List.set_cons_zero, List.set_cons_succ]
                      refine wpAnyH_takeL (i := 18) (v := ?vhy233) rfl (by kernel_rfl) (by kernel_rfl) (by kernel_rfl) (fun _ _ _ h => h) (Or.inl ⟨by rfl, ?hy233⟩) (by assumption) ?rhy233
                      case hy233 => ((intro w hSw; (try dsimp only at hSw); go_simp); try with_reducible rfl)
                      try simp only [Act.put, List.setIfInBounds_toArray, List.set_cons_zero, List.set_cons_succ]
                      refine wpAnyH_takeL (i := 19) (v := ?vhy234) rfl (by kernel_rfl) (by kernel_rfl) (by kernel_rfl) (fun _ _ _ h => h) (Or.inl ⟨by rfl, ?hy234⟩) (by assumption) ?rhy234
                      case hy234 => ((intro w hSw; (try dsimp only at hSw); go_simp); try with_reducible rfl)
                      try simp only [Act.put, List.setIfInBounds_toArray, List.set_cons_zero, List.set_cons_succ]
                      refine wpAnyH_takeL (i := 20) (v := ?vhy235) rfl (by kernel_rfl) (by kernel_rfl) (by kernel_rfl) (fun _ _ _ h => h) (Or.inl ⟨by rfl, ?hy235⟩) (by assumption) ?rhy235
                      case hy235 => ((intro w hSw; (try dsimp only at hSw); go_simp); try with_reducible rfl)
                      try simp only [Act.put, List.setIfInBounds_toArray, List.set_cons_zero, List.set_cons_succ]
                      refine wpAnyH_takeL (i := 21) (v := ?vhy236) rfl (by kernel_rfl) (by kernel_rfl) (by kernel_rfl) (fun _ _ _ h => h) (Or.inl ⟨by rfl, ?hy236⟩) (by assumption) ?rhy236
                      case hy236 => ((intro w hSw; (try dsimp only at hSw); go_simp); try with_reducible rfl)
                      try simp only [Act.put, List.setIfInBounds_toArray, List.set_cons_zero, List.set_cons_succ]
                      refine wpAnyH_takeL (i := 22) (v := ?vhy237) rfl (by kernel_rfl) (by kernel_rfl) (by kernel_rfl) (fun _ _ _ h => h) (Or.inl ⟨by rfl, ?hy237⟩) (by assumption) ?rhy237
                      case hy237 => ((intro w hSw; (try dsimp only at hSw); go_simp); try with_reducible rfl)
                      try simp only [Act.put, List.setIfInBounds_toArray, List.set_cons_zero, List.set_cons_succ]
                      refine wpAnyH_takeL (i := 23) (v := ?vhy238) rfl (by kernel_rfl) (by kernel_rfl) (by kernel_rfl) (fun _ _ _ h => h) (Or.inl ⟨by rfl, ?hy238⟩) (by assumption) ?rhy238
                      case hy238 => ((intro w hSw; (try dsimp only at hSw); go_simp); try with_reducible rfl)
                      try simp only [Act.put, List.setIfInBounds_toArray, List.set_cons_zero, List.set_cons_succ]
                      refine wpAnyH_takeL (i := 24) (v := ?vhy239) rfl (by kernel_rfl) (by kernel_rfl) (by kernel_rfl) (fun _ _ _ h => h) (Or.inl ⟨by rfl, ?hy239⟩) (by assumption) ?rhy239
                      case hy239 => ((intro w hSw; (try dsimp only at hSw); go_simp); try with_reducible rfl)
                      try simp only [Act.put, List.setIfInBounds_toArray, List.set_cons_zero, List.set_cons_succ]
                      refine wpAnyH_takeL (i := 25) (v := ?vhy240) rfl (by kernel_rfl) (by kernel_rfl) (by kernel_rfl) (fun _ _ _ h => h) (Or.inl ⟨by rfl, ?hy240⟩) (by assumption) ?rhy240
                      case hy240 => ((intro w hSw; (try dsimp only at hSw); go_simp); try with_reducible rfl)
                      try simp only [Act.put, List.setIfInBounds_toArray, List.set_cons_zero, List.set_cons_succ]
                      refine wpAnyH_takeL (i := 26) (v := ?vhy241) rfl (by kernel_rfl) (by kernel_rfl) (by kernel_rfl) (fun _ _ _ h => h) (Or.inl ⟨by rfl, ?hy241⟩) (by assumption) ?rhy241
                      case hy241 => ((intro w hSw; (try dsimp only at hSw); go_simp); try with_reducible rfl)
                      try simp only [Act.put, List.setIfInBounds_toArray, List.set_cons_zero, List.set_cons_succ]
                      refine wpAnyH_takeL (i := 27) (v := ?vhy242) rfl (by kernel_rfl) (by kernel_rfl) (by kernel_rfl) (fun _ _ _ h => h) (Or.inl ⟨by rfl, ?hy242⟩) (by assumption) ?rhy242
                      case hy242 => ((intro w hSw; (try dsimp only at hSw); go_simp); try with_reducible rfl)
                      try simp only [Act.put, List.setIfInBounds_toArray, List.set_cons_zero, List.set_cons_succ]
                      refine wpAnyH_takeL (i := 28) (v := ?vhy243) rfl (by kernel_rfl) (by kernel_rfl) (by kernel_rfl) (fun _ _ _ h => h) (Or.inl ⟨by rfl, ?hy243⟩) (by assumption) ?rhy243
                      case hy243 => ((intro w hSw; (try dsimp only at hSw); go_simp); try with_reducible rfl)
                      try simp only [Act.put, List.setIfInBounds_toArray, List.set_cons_zero, List.set_cons_succ]
                      refine wpAnyH_takeL (i := 29) (v := ?vhy244) rfl (by kernel_rfl) (by kernel_rfl) (by kernel_rfl) (fun _ _ _ h => h) (Or.inl ⟨by rfl, ?hy244⟩) (by assumption) ?rhy244
                      case hy244 => ((intro w hSw; (try dsimp only at hSw); go_simp); try with_reducible rfl)
                      try simp only [Act.put, List.setIfInBounds_toArray, List.set_cons_zero, List.set_cons_succ]
                      refine wpAnyH_takeL (i := 30) (v := ?vhy245) rfl (by kernel_rfl) (by kernel_rfl) (by kernel_rfl) (fun _ _ _ h => h) (Or.inl ⟨by rfl, ?hy245⟩) (by assumption) ?rhy245
                      case hy245 => ((intro w hSw; (try dsimp only at hSw); go_simp); try with_reducible rfl)
                      try simp only [Act.put, List.setIfInBounds_toArray, List.set_cons_zero, List.set_cons_succ]
                      refine wpAnyH_takeL (i := 31) (v := ?vhy246) rfl (by kernel_rfl) (by kernel_rfl) (by kernel_rfl) (fun _ _ _ h => h) (Or.inl ⟨by rfl, ?hy246⟩) (by assumption) ?rhy246
                      case hy246 => ((intro w hSw; (try dsimp only at hSw); go_simp); try with_reducible rfl)
                      try simp only [Act.put, List.setIfInBounds_toArray, List.set_cons_zero, List.set_cons_succ]
                      refine wpAnyH_takeL (i := 32) (v := ?vhy247) rfl (by kernel_rfl) (by kernel_rfl) (by kernel_rfl) (fun _ _ _ h => h) (Or.inl ⟨by rfl, ?hy247⟩) (by assumption) ?rhy247
                      case hy247 => ((intro w hSw; (try dsimp only at hSw); go_simp); try with_reducible rfl)
                      try simp only [Act.put, List.setIfInBounds_toArray, List.set_cons_zero, List.set_cons_succ]
                      refine wpAnyH_takeL (i := 33) (v := ?vhy248) rfl (by kernel_rfl) (by kernel_rfl) (by kernel_rfl) (fun _ _ _ h => h) (Or.inl ⟨by rfl, ?hy248⟩) (by assumption) ?rhy248
                      case hy248 => ((intro w hSw; (try dsimp only at hSw); go_simp); try with_reducible rfl)
                      try simp only [Act.put, List.setIfInBounds_toArray, List.set_cons_zero, List.set_cons_succ]
                      refine wpAnyH_takeL (i := 34) (v := ?vhy249) rfl (by kernel_rfl) (by kernel_rfl) (by kernel_rfl) (fun _ _ _ h => h) (Or.inl ⟨by rfl, ?hy249⟩) (by assumption) ?rhy249
                      case hy249 => ((intro w hSw; (try dsimp only at hSw); go_simp); try with_reducible rfl)
                      try simp only [Act.put, List.setIfInBounds_toArray, List.set_cons_zero, List.set_cons_succ]
                      refine wpAnyH_takeL (i := 35) (v := ?vhy250) rfl (by kernel_rfl) (by kernel_rfl) (by kernel_rfl) (fun _ _ _ h => h) (Or.inl ⟨by rfl, ?hy250⟩) (by assumption) ?rhy250
                      case hy250 => ((intro w hSw; (try dsimp only at hSw); go_simp); try with_reducible rfl)
                      try simp only [Act.put, List.setIfInBounds_toArray, List.set_cons_zero, List.set_cons_succ]
                      refine wpAnyH_done (by kernel_rfl) ?_ _
                      refine NoPanic.normal ?_
                      clear hHeld
                      cases q0 with
                      | true =>
                        go_wp2_with fail
                        refine (hHa.out _ hbw).mono ?_
                        rintro e w9 ⟨rfl, hb3⟩
                        replace hbw := hbw.trans (hb3.mono hbw.size)
                        clear hb3
                        go_wp2_with fail
                        refine (hHw.out _ hbw).mono ?_
                        rintro e w10 ⟨rfl, hb3⟩
                        replace hbw := hbw.trans (hb3.mono hbw.size)
                        clear hb3
                        cases h0v with
                        | true =>
                          replace hbf := Lib.hid hbw
                          clear hbw
                          go_wp2
                          exact ⟨⟨b, by simp, hb1'.2, by rw [hbl.out]; rfl, hbf.out⟩, by simp [intOf]; have := hb.out; omega⟩
                        | false =>
                          exact absurd F2.out (by simp)
                      | false =>
                        go_wp2_with fail
                        refine (hHa.out _ hbw).mono ?_
                        rintro e w9 ⟨rfl, hb3⟩
                        replace hbw := hbw.trans (hb3.mono hbw.size)
                        clear hb3
                        go_wp2_with fail
                        refine (hHw.out _ hbw).mono ?_
                        rintro e w10 ⟨rfl, hb3⟩
                        replace hbw := hbw.trans (hb3.mono hbw.size)
                        clear hb3
                        cases h0v with
                        | true =>
                          replace hbf := Lib.hid hbw
                          clear hbw
                          go_wp2
                          exact ⟨⟨b, by simp, hb1'.2, by rw [hbl.out]; rfl, hbf.out⟩, by simp [intOf]; have := hb.out; omega⟩
                        | false =>
                          exact absurd F2.out (by simp)
                    | false =>
                      refine wp_region_noPanic ?_
                      refine wp_region_held_drew (S := fun W => (W.cell? ⟨w.heap.size + 1, b, none⟩ = some (.bool true) ∧ W.cell? ⟨w.heap.size + 1, a, none⟩ = some (.bool true)) ∧ W.cell? ⟨w.heap.size, b, none⟩ = some (.int .i64 cb) ∧ W.cell? ⟨w.heap.size, a, none⟩ = some (.int .i64 ca)) (by kernel_rfl) (hS.out _ hbw.drew) (fun hHeld => ?_)
                      replace hbw := hbw.drew
                      refine wpAnyH_takeL (i := 0) (v := ?vhy251) rfl (by kernel_rfl) (by kernel_rfl) (by kernel_rfl) (fun _ _ _ h => h) (Or.inl ⟨by rfl, ?hy251⟩) (by assumption) ?rhy251
                      case hy251 => ((intro w hSw; (try dsimp only at hSw); go_simp); try with_reducible rfl)
                      try simp only [Act.put, List.setIfInBounds_toArray, List.set_cons_zero, List.set_cons_succ]
                      refine wpAnyH_takeL (i := 1) (v := ?vhy252) rfl (by kernel_rfl) (by kernel_rfl) (by kernel_rfl) (fun _ _ _ h => h) (Or.inl ⟨by rfl, ?hy252⟩) (by assumption) ?rhy252
                      case hy252 => ((intro w hSw; (try dsimp only at hSw); go_simp); try with_reducible rfl)
                      try simp only [Act.put, List.setIfInBounds_toArray, List.set_cons_zero, List.set_cons_succ]
                      refine wpAnyH_ready (rs := [2]) (by kernel_rfl) (by simp) ?_
                      refine AllReadyH.consL (i := 2) rfl (fun K hK => ?_) AllReadyH.nil
                      go_simp
                      refine (hHb.out _ hbw).mono ?_
                      rintro e w8 ⟨rfl, hb3⟩
                      replace hbw := hbw.trans (hb3.mono hbw.size)
                      refine hK.out _ _ (hS.out _ hbw) (fun hHeld => ?_)
                      clear hK hb3
                      refine wpAnyH_takeL (i := 3) (v := ?vhy253) rfl (by kernel_rfl) (by kernel_rfl) (by kernel_rfl) (fun _ _ _ h => h) (Or.inl ⟨by rfl, ?hy253⟩) (by assumption) ?rhy253
                      case hy253 => ((intro w hSw; (try dsimp only at hSw); go_simp); try with_reducible rfl)
                      try simp only [Act.put, List.setIfInBounds_toArray, List.set_cons_zero, List.set_cons_succ]
                      refine wpAnyH_takeL (i := 4) (v := ?vhy254) rfl (by kernel_rfl) (by kernel_rfl) (by kernel_rfl) (fun _ _ _ h => h) (Or.inl ⟨by rfl, ?hy254⟩) (by assumption) ?rhy254
                      case hy254 => ((intro w hSw; (try dsimp only at hSw); go_simp); try with_reducible rfl)
                      try simp only [Act.put, List.setIfInBounds_toArray, List.set_cons_zero, List.set_cons_succ]
                      refine wpAnyH_takeL (i := 5) (v := ?vhy255) rfl (by kernel_rfl) (by kernel_rfl) (by kernel_rfl) (fun _ _ _ h => h) (Or.inl ⟨by rfl, ?hy255⟩) (by assumption) ?rhy255
                      case hy255 => ((intro w hSw; (try dsimp only at hSw); go_simp); try with_reducible rfl)
                      try simp only [Act.put, List.setIfInBounds_toArray, List.set_cons_zero, List.set_cons_succ]
                      refine wpAnyH_takeL (i := 6) (v := ?vhy256) rfl (by kernel_rfl) (by kernel_rfl) (by kernel_rfl) (fun _ _ _ h => h) (Or.inl ⟨by rfl, ?hy256⟩) (by assumption) ?rhy256
                      case hy256 => ((intro w hSw; (try dsimp only at hSw); go_simp); try with_reducible rfl)
                      try simp only [Act.put, List.setIfInBounds_toArray, List.set_cons_zero, List.set_cons_succ]
                      refine wpAnyH_takeL (i := 7) (v := ?vhy257) rfl (by kernel_rfl) (by kernel_rfl) (by kernel_rfl) (fun _ _ _ h => h) (Or.inl ⟨by rfl, ?hy257⟩) (by assumption) ?rhy257
                      case hy257 => ((intro w hSw; (try dsimp only at hSw); go_simp); try with_reducible rfl)
                      try simp only [Act.put, List.setIfInBounds_toArray, List.set_cons_zero, List.set_cons_succ]
                      refine wpAnyH_takeL (i := 8) (v := ?vhy258) rfl (by kernel_rfl) (by kernel_rfl) (by kernel_rfl) (fun _ _ _ h => h) (Or.inl ⟨by rfl, ?hy258⟩) (by assumption) ?rhy258
                      case hy258 => ((intro w hSw; (try dsimp only at hSw); go_simp); try with_reducible rfl)
                      try simp only [Act.put, List.setIfInBounds_toArray, List.set_cons_zero, List.set_cons_succ]
                      refine wpAnyH_takeL (i := 9) (v := ?vhy259) rfl (by kernel_rfl) (by kernel_rfl) (by kernel_rfl) (fun _ _ _ h => h) (Or.inl ⟨by rfl, ?hy259⟩) (by assumption) ?rhy259
                      case hy259 => ((intro w hSw; (try dsimp only at hSw); go_simp); try with_reducible rfl)
                      try simp only [Act.put, List.setIfInBounds_toArray, List.set_cons_zero, List.set_cons_succ]
                      refine wpAnyH_takeL (i := 10) (v := ?vhy260) rfl (by kernel_rfl) (by kernel_rfl) (by kernel_rfl) (fun _ _ _ h => h) (Or.inl ⟨by rfl, ?hy260⟩) (by assumption) ?rhy260
                      case hy260 => ((intro w hSw; (try dsimp only at hSw); go_simp); try with_reducible rfl)
                      try simp only [Act.put, List.setIfInBounds_toArray, List.set_cons_zero, List.set_cons_succ]
                      refine wpAnyH_takeL (i := 11) (v := ?vhy261) rfl (by kernel_rfl) (by kernel_rfl) (by kernel_rfl) (fun _ _ _ h => h) (Or.inl ⟨by rfl, ?hy261⟩) (by assumption) ?rhy261
                      case hy261 => ((intro w hSw; (try dsimp only at hSw); go_simp); try with_reducible rfl)
                      try simp only [Act.put, List.setIfInBounds_toArray, List.set_cons_zero, List.set_cons_succ]
                      refine wpAnyH_takeL (i := 12) (v := ?vhy262) rfl (by kernel_rfl) (by kernel_rfl) (by kernel_rfl) (fun _ _ _ h => h) (Or.inl ⟨by rfl, ?hy262⟩) (by assumption) ?rhy262
                      case hy262 => ((intro w hSw; (try dsimp only at hSw); go_simp); try with_reducible rfl)
                      try simp only [Act.put, List.setIfInBounds_toArray, List.set_cons_zero, List.set_cons_succ]
                      refine wpAnyH_takeL (i := 13) (v := ?vhy263) rfl (by kernel_rfl) (by kernel_rfl) (by kernel_rfl) (fun _ _ _ h => h) (Or.inl ⟨by rfl, ?hy263⟩) (by assumption) ?rhy263
                      case hy263 => ((intro w hSw; (try dsimp only at hSw); go_simp); try with_reducible rfl)
                      try simp only [Act.put, List.setIfInBounds_toArray, List.set_cons_zero, List.set_cons_succ]
                      refine wpAnyH_takeL (i := 14) (v := ?vhy264) rfl (by kernel_rfl) (by kernel_rfl) (by kernel_rfl) (fun _ _ _ h => h) (Or.inl ⟨by rfl, ?hy264⟩) (by assumption) ?rhy264
                      case hy264 => ((intro w hSw; (try dsimp only at hSw); go_simp); try with_reducible rfl)
                      try simp only [Act.put, List.setIfInBounds_toArray, List.set_cons_zero, List.set_cons_succ]
                      refine wpAnyH_takeL (i := 15) (v := ?vhy265) rfl (by kernel_rfl) (by kernel_rfl) (by kernel_rfl) (fun _ _ _ h => h) (Or.inl ⟨by rfl, ?hy265⟩) (by assumption) ?rhy265
                      case hy265 => ((intro w hSw; (try dsimp only at hSw); go_simp); try with_reducible rfl)
                      try simp only [Act.put, List.setIfInBounds_toArray, List.set_cons_zero, List.set_cons_succ]
                      refine wpAnyH_takeL (i := 16) (v := ?vhy266) rfl (by kernel_rfl) (by kernel_rfl) (by kernel_rfl) (fun _ _ _ h => h) (Or.inl ⟨by rfl, ?hy266⟩) (by assumption) ?rhy266
                      case hy266 => ((intro w hSw; (try dsimp only at hSw); go_simp); try with_reducible rfl)
                      try simp only [Act.put, List.setIfInBounds_toArray, List.set_cons_zero, List.set_cons_succ]
                      refine wpAnyH_takeL (i := 17) (v := ?vhy267) rfl (by kernel_rfl) (by kernel_rfl) (by kernel_rfl) (fun _ _ _ h => h) (Or.inl ⟨by rfl, ?hy267⟩) (by assumption) ?rhy267
                      case hy267 => ((intro w hSw; (try dsimp only at hSw); go_simp); try with_reducible rfl)
                      try simp only [Act.put, List.setIfInBounds_toArray, List.set_cons_zero, List.set_cons_succ]
                      refine wpAnyH_takeL (i := 18) (v := ?vhy268) rfl (by kernel_rfl) (by kernel_rfl) (by kernel_rfl) (fun _ _ _ h => h) (Or.inl ⟨by rfl, ?hy268⟩) (by assumption) ?rhy268
                      case hy268 => ((intro w hSw; (try dsimp only at hSw); go_simp); try with_reducible rfl)
                      try simp only [Act.put, List.setIfInBounds_toArray, List.set_cons_zero, List.set_cons_succ]
                      refine wpAnyH_takeL (i := 19) (v := ?vhy269) rfl (by kernel_rfl) (by kernel_rfl) (by kernel_rfl) (fun _ _ _ h => h) (Or.inl ⟨by rfl, ?hy269⟩) (by assumption) ?rhy269
                      case hy269 => ((intro w hSw; (try dsimp only at hSw); go_simp); try with_reducible rfl)
                      try simp only [Act.put, List.setIfInBounds_toArray, List.set_cons_zero, List.set_cons_succ]
                      refine wpAnyH_takeL (i := 20) (v := ?vhy270) rfl (by kernel_rfl) (by kernel_rfl) (by kernel_rfl) (fun _ _ _ h => h) (Or.inl ⟨by rfl, ?hy270⟩) (by assumption) ?rhy270
                      case hy270 => ((intro w hSw; (try dsimp only at hSw); go_simp); try with_reducible rfl)
                      try simp only [Act.put, List.setIfInBounds_toArray, List.set_cons_zero, List.set_cons_succ]
                      refine wpAnyH_takeL (i := 21) (v := ?vhy271) rfl (by kernel_rfl) (by kernel_rfl) (by kernel_rfl) (fun _ _ _ h => h) (Or.inl ⟨by rfl, ?hy271⟩) (by assumption) ?rhy271
                      case hy271 => ((intro w hSw; (try dsimp only at hSw); go_simp); try with_reducible rfl)
                      try simp only [Act.put, List.setIfInBounds_toArray, List.set_cons_zero, List.set_cons_succ]
                      refine wpAnyH_takeL (i := 22) (v := ?vhy272) rfl (by kernel_rfl) (by kernel_rfl) (by kernel_rfl) (fun _ _ _ h => h) (Or.inl ⟨by rfl, ?hy272⟩) (by assumption) ?rhy272
                      case hy272 => ((intro w hSw; (try dsimp only at hSw); go_simp); try with_reducible rfl)
                      try simp only [Act.put, List.setIfInBounds_toArray, List.set_cons_zero, List.set_cons_succ]
                      refine wpAnyH_takeL (i := 23) (v := ?vhy273) rfl (by kernel_rfl) (by kernel_rfl) (by kernel_rfl) (fun _ _ _ h => h) (Or.inl ⟨by rfl, ?hy273⟩) (by assumption) ?rhy273
                      case hy273 => ((intro w hSw; (try dsimp only at hSw); go_simp); try with_reducible rfl)
                      try simp only [Act.put, List.setIfInBounds_toArray, List.set_cons_zero, List.set_cons_succ]
                      refine wpAnyH_takeL (i := 24) (v := ?vhy274) rfl (by kernel_rfl) (by kernel_rfl) (by kernel_rfl) (fun _ _ _ h => h) (Or.inl ⟨by rfl, ?hy274⟩) (by assumption) ?rhy274
                      case hy274 => ((intro w hSw; (try dsimp only at hSw); go_simp); try with_reducible rfl)
                      try simp only [Act.put, List.setIfInBounds_toArray, List.set_cons_zero, List.set_cons_succ]
                      refine wpAnyH_takeL (i := 25) (v := ?vhy275) rfl (by kernel_rfl) (by kernel_rfl) (by kernel_rfl) (fun _ _ _ h => h) (Or.inl ⟨by rfl, ?hy275⟩) (by assumption) ?rhy275
                      case hy275 => ((intro w hSw; (try dsimp only at hSw); go_simp); try with_reducible rfl)
                      try simp only [Act.put, List.setIfInBounds_toArray, List.set_cons_zero, List.set_cons_succ]
                      refine wpAnyH_takeL (i := 26) (v := ?vhy276) rfl (by kernel_rfl) (by kernel_rfl) (by kernel_rfl) (fun _ _ _ h => h) (Or.inl ⟨by rfl, ?hy276⟩) (by assumption) ?rhy276
                      case hy276 => ((intro w hSw; (try dsimp only at hSw); go_simp); try with_reducible rfl)
                      try simp only [Act.put, List.setIfInBounds_toArray, List.set_cons_zero, List.set_cons_succ]
                      refine wpAnyH_takeL (i := 27) (v := ?vhy277) rfl (by kernel_rfl) (by kernel_rfl) (by kernel_rfl) (fun _ _ _ h => h) (Or.inl ⟨by rfl, ?hy277⟩) (by assumption) ?rhy277
                      case hy277 => ((intro w hSw; (try dsimp only at hSw); go_simp); try with_reducible rfl)
                      try simp only [Act.put, List.setIfInBounds_toArray, List.set_cons_zero, List.set_cons_succ]
                      refine wpAnyH_takeL (i := 28) (v := ?vhy278) rfl (by kernel_rfl) (by kernel_rfl) (by kernel_rfl) (fun _ _ _ h => h) (Or.inl ⟨by rfl, ?hy278⟩) (by assumption) ?rhy278
                      case hy278 => ((intro w hSw; (try dsimp only at hSw); go_simp); try with_reducible rfl)
                      try simp only [Act.put, List.setIfInBounds_toArray, List.set_cons_zero, List.set_cons_succ]
                      refine wpAnyH_takeL (i := 29) (v := ?vhy279) rfl (by kernel_rfl) (by kernel_rfl) (by kernel_rfl) (fun _ _ _ h => h) (Or.inl ⟨by rfl, ?hy279⟩) (by assumption) ?rhy279
                      case hy279 => ((intro w hSw; (try dsimp only at hSw); go_simp); try with_reducible rfl)
                      try simp only [Act.put, List.setIfInBounds_toArray, List.set_cons_zero, List.set_cons_succ]
                      refine wpAnyH_takeL (i := 30) (v := ?vhy280) rfl (by kernel_rfl) (by kernel_rfl) (by kernel_rfl) (fun _ _ _ h => h) (Or.inl ⟨by rfl, ?hy280⟩) (by assumption) ?rhy280
                      case hy280 => ((intro w hSw; (try dsimp only at hSw); go_simp); try with_reducible rfl)
                      try simp only [Act.put, List.setIfInBounds_toArray, List.set_cons_zero, List.set_cons_succ]
                      refine wpAnyH_takeL (i := 31) (v := ?vhy281) rfl (by kernel_rfl) (by kernel_rfl) (by kernel_rfl) (fun _ _ _ h => h) (Or.inl ⟨by rfl, ?hy281⟩) (by assumption) ?rhy281
                      case hy281 => ((intro w hSw; (try dsimp only at hSw); go_simp); try with_reducible rfl)
                      try simp only [Act.put, List.setIfInBounds_toArray, List.set_cons_zero, List.set_cons_succ]
                      refine wpAnyH_takeL (i := 32) (v := ?vhy282) rfl (by kernel_rfl) (by kernel_rfl) (by kernel_rfl) (fun _ _ _ h => h) (Or.inl ⟨by rfl, ?hy282⟩) (by assumption) ?rhy282
                      case hy282 => ((intro w hSw; (try dsimp only at hSw); go_simp); try with_reducible rfl)
                      try simp only [Act.put, List.setIfInBounds_toArray, List.set_cons_zero, List.set_cons_succ]
                      refine wpAnyH_takeL (i := 33) (v := ?vhy283) rfl (by kernel_rfl) (by kernel_rfl) (by kernel_rfl) (fun _ _ _ h => h) (Or.inl ⟨by rfl, ?hy283⟩) (by assumption) ?rhy283
                      case hy283 => ((intro w hSw; (try dsimp only at hSw); go_simp); try with_reducible rfl)
                      try simp only [Act.put, List.setIfInBounds_toArray, List.set_cons_zero, List.set_cons_succ]
                      refine wpAnyH_takeL (i := 34) (v := ?vhy284) rfl (by kernel_rfl) (by kernel_rfl) (by kernel_rfl) (fun _ _ _ h => h) (Or.inl ⟨by rfl, ?hy284⟩) (by assumption) ?rhy284
                      case hy284 => ((intro w hSw; (try dsimp only at hSw); go_simp); try with_reducible rfl)
                      try simp only [Act.put, List.setIfInBounds_toArray, List.set_cons_zero, List.set_cons_succ]
                      refine wpAnyH_takeL (i := 35) (v := ?vhy285) rfl (by kernel_rfl) (by kernel_rfl) (by kernel_rfl) (fun _ _ _ h => h) (Or.inl ⟨by rfl, ?hy285⟩) (by assumption) ?rhy285
                      case hy285 => ((intro w hSw; (try dsimp only at hSw); go_simp); try with_reducible rfl)
                      try simp only [Act.put, List.setIfInBounds_toArray, List.set_cons_zero, List.set_cons_succ]
                      refine wpAnyH_done (by kernel_rfl) ?_ _
                      refine NoPanic.normal ?_
                      clear hHeld
                      cases q0 with
                      | true =>
                        go_wp2_with fail
                        refine (hHa.out _ hbw).mono ?_
                        rintro e w9 ⟨rfl, hb3⟩
                        replace hbw := hbw.trans (hb3.mono hbw.size)
                        clear hb3
                        go_wp2_with fail
                        refine (hHw.out _ hbw).mono ?_
                        rintro e w10 ⟨rfl, hb3⟩
                        replace hbw := hbw.trans (hb3.mono hbw.size)
                        clear hb3
                        cases h0v with
                        | true =>
                          replace hbf := Lib.hid hbw
                          clear hbw
                          go_wp2
                          exact ⟨⟨b, by simp, hb1'.2, by rw [hbl.out]; rfl, hbf.out⟩, by simp [intOf]; have := hb.out; omega⟩
                        | false =>
                          replace hbf := Lib.hid hbw
                          clear hbw
                          go_wp2
                          exact ⟨⟨b, by simp, hb1'.2, by rw [hbl.out]; rfl, hbf.out⟩, by simp [intOf]; have := hb.out; omega⟩
                      | false =>
                        go_wp2_with fail
                        refine (hHa.out _ hbw).mono ?_
                        rintro e w9 ⟨rfl, hb3⟩
                        replace hbw := hbw.trans (hb3.mono hbw.size)
                        clear hb3
                        go_wp2_with fail
                        refine (hHw.out _ hbw).mono ?_
                        rintro e w10 ⟨rfl, hb3⟩
                        replace hbw := hbw.trans (hb3.mono hbw.size)
                        clear hb3
                        cases h0v with
                        | true =>
                          replace hbf := Lib.hid hbw
                          clear hbw
                          go_wp2
                          exact ⟨⟨b, by simp, hb1'.2, by rw [hbl.out]; rfl, hbf.out⟩, by simp [intOf]; have := hb.out; omega⟩
                        | false =>
                          replace hbf := Lib.hid hbw
                          clear hbw
                          go_wp2
                          exact ⟨⟨b, by simp, hb1'.2, by rw [hbl.out]; rfl, hbf.out⟩, by simp [intOf]; have := hb.out; omega⟩
                | false =>
                  cases fa with
                  | true =>
                    refine wp_region_noPanic ?_
                    refine wp_region_held_drew (S := fun W => (W.cell? ⟨w.heap.size + 1, b, none⟩ = some (.bool false) ∧ W.cell? ⟨w.heap.size + 1, a, none⟩ = some (.bool true)) ∧ W.cell? ⟨w.heap.size, b, none⟩ = some (.int .i64 cb) ∧ W.cell? ⟨w.heap.size, a, none⟩ = some (.int .i64 ca)) (by kernel_rfl) (hS.out _ hbw.drew) (fun hHeld => ?_)
                    replace hbw := hbw.drew
                    refine wpAnyH_takeL (i := 0) (v := ?vhy286) rfl (by kernel_rfl) (by kernel_rfl) (by kernel_rfl) (fun _ _ _ h => h) (Or.inl ⟨by rfl, ?hy286⟩) (by assumption) ?rhy286
                    case hy286 => ((intro w hSw; (try dsimp only at hSw); go_simp); try with_reducible rfl)
                    try simp only [Act.put, List.setIfInBounds_toArray, List.set_cons_zero, List.set_cons_succ]
                    refine wpAnyH_takeL (i := 1) (v := ?vhy287) rfl (by kernel_rfl) (by kernel_rfl) (by kernel_rfl) (fun _ _ _ h => h) (Or.inl ⟨by rfl, ?hy287⟩) (by assumption) ?rhy287
                    case hy287 => ((intro w hSw; (try dsimp only at hSw); go_simp); try with_reducible rfl)
                    try simp only [Act.put, List.setIfInBounds_toArray, List.set_cons_zero, List.set_cons_succ]
                    refine wpAnyH_ready (rs := [2]) (by kernel_rfl) (by simp) ?_
                    refine AllReadyH.consL (i := 2) rfl (fun K hK => ?_) AllReadyH.nil
                    go_simp
                    refine (hHb.out _ hbw).mono ?_
                    rintro e w8 ⟨rfl, hb3⟩
                    replace hbw := hbw.trans (hb3.mono hbw.size)
                    refine hK.out _ _ (hS.out _ hbw) (fun hHeld => ?_)
                    clear hK hb3
                    refine wpAnyH_takeL (i := 3) (v := ?vhy288) rfl (by kernel_rfl) (by kernel_rfl) (by kernel_rfl) (fun _ _ _ h => h) (Or.inl ⟨by rfl, ?hy288⟩) (by assumption) ?rhy288
                    case hy288 => ((intro w hSw; (try dsimp only at hSw); go_simp); try with_reducible rfl)
                    try simp only [Act.put, List.setIfInBounds_toArray, List.set_cons_zero, List.set_cons_succ]
                    refine wpAnyH_takeL (i := 4) (v := ?vhy289) rfl (by kernel_rfl) (by kernel_rfl) (by kernel_rfl) (fun _ _ _ h => h) (Or.inl ⟨by rfl, ?hy289⟩) (by assumption) ?rhy289
                    case hy289 => ((intro w hSw; (try dsimp only at hSw); go_simp); try with_reducible rfl)
                    try simp only [Act.put, List.setIfInBounds_toArray, List.set_cons_zero, List.set_cons_succ]
                    refine wpAnyH_takeL (i := 5) (v := ?vhy290) rfl (by kernel_rfl) (by kernel_rfl) (by kernel_rfl) (fun _ _ _ h => h) (Or.inl ⟨by rfl, ?hy290⟩) (by assumption) ?rhy290
                    case hy290 => ((intro w hSw; (try dsimp only at hSw); go_simp); try with_reducible rfl)
                    try simp only [Act.put, List.setIfInBounds_toArray, List.set_cons_zero, List.set_cons_succ]
                    refine wpAnyH_takeL (i := 6) (v := ?vhy291) rfl (by kernel_rfl) (by kernel_rfl) (by kernel_rfl) (fun _ _ _ h => h) (Or.inl ⟨by rfl, ?hy291⟩) (by assumption) ?rhy291
                    case hy291 => ((intro w hSw; (try dsimp only at hSw); go_simp); try with_reducible rfl)
                    try simp only [Act.put, List.setIfInBounds_toArray, List.set_cons_zero, List.set_cons_succ]
                    refine wpAnyH_takeL (i := 7) (v := ?vhy292) rfl (by kernel_rfl) (by kernel_rfl) (by kernel_rfl) (fun _ _ _ h => h) (Or.inl ⟨by rfl, ?hy292⟩) (by assumption) ?rhy292
                    case hy292 => ((intro w hSw; (try dsimp only at hSw); go_simp); try with_reducible rfl)
                    try simp only [Act.put, List.setIfInBounds_toArray, List.set_cons_zero, List.set_cons_succ]
                    refine wpAnyH_takeL (i := 8) (v := ?vhy293) rfl (by kernel_rfl) (by kernel_rfl) (by kernel_rfl) (fun _ _ _ h => h) (Or.inl ⟨by rfl, ?hy293⟩) (by assumption) ?rhy293
                    case hy293 => ((intro w hSw; (try dsimp only at hSw); go_simp); try with_reducible rfl)
                    try simp only [Act.put, List.setIfInBounds_toArray, List.set_cons_zero, List.set_cons_succ]
                    refine wpAnyH_takeL (i := 9) (v := ?vhy294) rfl (by kernel_rfl) (by kernel_rfl) (by kernel_rfl) (fun _ _ _ h => h) (Or.inl ⟨by rfl, ?hy294⟩) (by assumption) ?rhy294
                    case hy294 => ((intro w hSw; (try dsimp only at hSw); go_simp); try with_reducible rfl)
                    try simp only [Act.put, List.setIfInBounds_toArray, List.set_cons_zero, List.set_cons_succ]
                    refine wpAnyH_takeL (i := 10) (v := undef) rfl (by kernel_rfl) (by kernel_rfl) (by kernel_rfl) (fun _ _ _ h => h) (Or.inr ⟨by rfl, rfl⟩) (by assumption) ?_
                    try simp only [Act.put, List.setIfInBounds_toArray, List.set_cons_zero, List.set_cons_succ]
                    refine wpAnyH_takeL (i := 11) (v := undef) rfl (by kernel_rfl) (by kernel_rfl) (by kernel_rfl) (fun _ _ _ h => h) (Or.inr ⟨by rfl, rfl⟩) (by assumption) ?_
                    try simp only [Act.put, List.setIfInBounds_toArray, List.set_cons_zero, List.set_cons_succ]
                    refine wpAnyH_takeL (i := 12) (v := undef) rfl (by kernel_rfl) (by kernel_rfl) (by kernel_rfl) (fun _ _ _ h => h) (Or.inr ⟨by rfl, rfl⟩) (by assumption) ?_
                    try simp only [Act.put, List.setIfInBounds_toArray, List.set_cons_zero, List.set_cons_succ]
                    refine wpAnyH_takeL (i := 13) (v := undef) rfl (by kernel_rfl) (by kernel_rfl) (by kernel_rfl) (fun _ _ _ h => h) (Or.inr ⟨by rfl, rfl⟩) (by assumption) ?_
                    try simp only [Act.put, List.setIfInBounds_toArray, List.set_cons_zero, List.set_cons_succ]
                    refine wpAnyH_takeL (i := 14) (v := ?vhy295) rfl (by kernel_rfl) (by kernel_rfl) (by kernel_rfl) (fun _ _ _ h => h) (Or.inl ⟨by rfl, ?hy295⟩) (by assumption) ?rhy295
                    case hy295 => ((intro w hSw; (try dsimp only at hSw); go_simp); try with_reducible rfl)
                    try simp only [Act.put, List.setIfInBounds_toArray, List.set_cons_zero, List.set_cons_succ]
                    refine wpAnyH_takeL (i := 15) (v := ?vhy296) rfl (by kernel_rfl) (by kernel_rfl) (by kernel_rfl) (fun _ _ _ h => h) (Or.inl ⟨by rfl, ?hy296⟩) (by assumption) ?rhy296
                    case hy296 => ((intro w hSw; (try dsimp only at hSw); go_simp); try with_reducible rfl)
                    try simp only [Act.put, List.setIfInBounds_toArray, List.set_cons_zero, List.set_cons_succ]
                    refine wpAnyH_takeL (i := 16) (v := ?vhy297) rfl (by kernel_rfl) (by kernel_rfl) (by kernel_rfl) (fun _ _ _ h => h) (Or.inl ⟨by rfl, ?hy297⟩) (by assumption) ?rhy297
                    case hy297 => ((intro w hSw; (try dsimp only at hSw); go_simp); try with_reducible rfl)
                    try simp only [Act.put, List.setIfInBounds_toArray, List.set_cons_zero, List.set_cons_succ]
                    refine wpAnyH_takeL (i := 17) (v := ?vhy298) rfl (by kernel_rfl) (by kernel_rfl) (by kernel_rfl) (fun _ _ _ h => h) (Or.inl ⟨by rfl, ?hy298⟩) (by assumption) ?rhy298
                    case hy298 => ((intro w hSw; (try dsimp only at hSw); go_simp); try with_reducible rfl)
                    try simp only [Act.put, List.setIfInBounds_toArray, List.set_cons_zero, List.set_cons_succ]
                    refine wpAnyH_takeL (i := 18) (v := ?vhy299) rfl (by kernel_rfl) (by kernel_rfl) (by kernel_rfl) (fun _ _ _ h => h) (Or.inl ⟨by rfl, ?hy299⟩) (by assumption) ?rhy299
                    case hy299 => ((intro w hSw; (try dsimp only at hSw); go_simp); try with_reducible rfl)
                    try simp only [Act.put, List.setIfInBounds_toArray, List.set_cons_zero, List.set_cons_succ]
                    refine wpAnyH_takeL (i := 19) (v := ?vhy300) rfl (by kernel_rfl) (by kernel_rfl) (by kernel_rfl) (fun _ _ _ h => h) (Or.inl ⟨by rfl, ?hy300⟩) (by assumption) ?rhy300
                    case hy300 => ((intro w hSw; (try dsimp only at hSw); go_simp); try with_reducible rfl)
                    try simp only [Act.put, List.setIfInBounds_toArray, List.set_cons_zero, List.set_cons_succ]
                    refine wpAnyH_takeL (i := 20) (v := ?vhy301) rfl (by kernel_rfl) (by kernel_rfl) (by kernel_rfl) (fun _ _ _ h => h) (Or.inl ⟨by rfl, ?hy301⟩) (by assumption) ?rhy301
                    case hy301 => ((intro w hSw; (try dsimp only at hSw); go_simp); try with_reducible rfl)
                    try simp only [Act.put, List.setIfInBounds_toArray, List.set_cons_zero, List.set_cons_succ]
                    refine wpAnyH_takeL (i := 21) (v := ?vhy302) rfl (by kernel_rfl) (by kernel_rfl) (by kernel_rfl) (fun _ _ _ h => h) (Or.inl ⟨by rfl, ?hy302⟩) (by assumption) ?rhy302
                    case hy302 => ((intro w hSw; (try dsimp only at hSw); go_simp); try with_reducible rfl)
                    try simp only [Act.put, List.setIfInBounds_toArray, List.set_cons_zero, List.set_cons_succ]
                    refine wpAnyH_takeL (i := 22) (v := ?vhy303) rfl (by kernel_rfl) (by kernel_rfl) (by kernel_rfl) (fun _ _ _ h => h) (Or.inl ⟨by rfl, ?hy303⟩) (by assumption) ?rhy303
                    case hy303 => ((intro w hSw; (try dsimp only at hSw); go_simp); try with_reducible rfl)
                    try simp only [Act.put, List.setIfInBounds_toArray, List.set_cons_zero, List.set_cons_succ]
                    refine wpAnyH_takeL (i := 23) (v := ?vhy304) rfl (by kernel_rfl) (by kernel_rfl) (by kernel_rfl) (fun _ _ _ h => h) (Or.inl ⟨by rfl, ?hy304⟩) (by assumption) ?rhy304
                    case hy304 => ((intro w hSw; (try dsimp only at hSw); go_simp); try with_reducible rfl)
                    try simp only [Act.put, List.setIfInBounds_toArray, List.set_cons_zero, List.set_cons_succ]
                    refine wpAnyH_takeL (i := 24) (v := undef) rfl (by kernel_rfl) (by kernel_rfl) (by kernel_rfl) (fun _ _ _ h => h) (Or.inr ⟨by rfl, rfl⟩) (by assumption) ?_
                    try simp only [Act.put, List.setIfInBounds_toArray, List.set_cons_zero, List.set_cons_succ]
                    refine wpAnyH_takeL (i := 25) (v := undef) rfl (by kernel_rfl) (by kernel_rfl) (by kernel_rfl) (fun _ _ _ h => h) (Or.inr ⟨by rfl, rfl⟩) (by assumption) ?_
                    try simp only [Act.put, List.setIfInBounds_toArray, List.set_cons_zero, List.set_cons_succ]
                    refine wpAnyH_takeL (i := 26) (v := undef) rfl (by kernel_rfl) (by kernel_rfl) (by kernel_rfl) (fun _ _ _ h => h) (Or.inr ⟨by rfl, rfl⟩) (by assumption) ?_
                    try simp only [Act.put, List.setIfInBounds_toArray, List.set_cons_zero, List.set_cons_succ]
                    refine wpAnyH_takeL (i := 27) (v := undef) rfl (by kernel_rfl) (by kernel_rfl) (by kernel_rfl) (fun _ _ _ h => h) (Or.inr ⟨by rfl, rfl⟩) (by assumption) ?_
                    try simp only [Act.put, List.setIfInBounds_toArray, List.set_cons_zero, List.set_cons_succ]
                    refine wpAnyH_takeL (i := 28) (v := undef) rfl (by kernel_rfl) (by kernel_rfl) (by kernel_rfl) (fun _ _ _ h => h) (Or.inr ⟨by rfl, rfl⟩) (by assumption) ?_
                    try simp only [Act.put, List.setIfInBounds_toArray, List.set_cons_zero, List.set_cons_succ]
                    refine wpAnyH_takeL (i := 29) (v := undef) rfl (by kernel_rfl) (by kernel_rfl) (by kernel_rfl) (fun _ _ _ h => h) (Or.inr ⟨by rfl, rfl⟩) (by assumption) ?_
                    try simp only [Act.put, List.setIfInBounds_toArray, List.set_cons_zero, List.set_cons_succ]
                    refine wpAnyH_takeL (i := 30) (v := undef) rfl (by kernel_rfl) (by kernel_rfl) (by kernel_rfl) (fun _ _ _ h => h) (Or.inr ⟨by rfl, rfl⟩) (by assumption) ?_
                    try simp only [Act.put, List.setIfInBounds_toArray, List.set_cons_zero, List.set_cons_succ]
                    refine wpAnyH_takeL (i := 31) (v := ?vhy305) rfl (by kernel_rfl) (by kernel_rfl) (by kernel_rfl) (fun _ _ _ h => h) (Or.inl ⟨by rfl, ?hy305⟩) (by assumption) ?rhy305
                    case hy305 => ((intro w hSw; (try dsimp only at hSw); go_simp); try with_reducible rfl)
                    try simp only [Act.put, List.setIfInBounds_toArray, List.set_cons_zero, List.set_cons_succ]
                    refine wpAnyH_takeL (i := 32) (v := ?vhy306) rfl (by kernel_rfl) (by kernel_rfl) (by kernel_rfl) (fun _ _ _ h => h) (Or.inl ⟨by rfl, ?hy306⟩) (by assumption) ?rhy306
                    case hy306 => ((intro w hSw; (try dsimp only at hSw); go_simp); try with_reducible rfl)
                    try simp only [Act.put, List.setIfInBounds_toArray, List.set_cons_zero, List.set_cons_succ]
                    refine wpAnyH_takeL (i := 33) (v := ?vhy307) rfl (by kernel_rfl) (by kernel_rfl) (by kernel_rfl) (fun _ _ _ h => h) (Or.inl ⟨by rfl, ?hy307⟩) (by assumption) ?rhy307
                    case hy307 => ((intro w hSw; (try dsimp only at hSw); go_simp); try with_reducible rfl)
                    try simp only [Act.put, List.setIfInBounds_toArray, List.set_cons_zero, List.set_cons_succ]
                    refine wpAnyH_takeL (i := 34) (v := ?vhy308) rfl (by kernel_rfl) (by kernel_rfl) (by kernel_rfl) (fun _ _ _ h => h) (Or.inl ⟨by rfl, ?hy308⟩) (by assumption) ?rhy308
                    case hy308 => ((intro w hSw; (try dsimp only at hSw); go_simp); try with_reducible rfl)
                    try simp only [Act.put, List.setIfInBounds_toArray, List.set_cons_zero, List.set_cons_succ]
                    refine wpAnyH_takeL (i := 35) (v := ?vhy309) rfl (by kernel_rfl) (by kernel_rfl) (by kernel_rfl) (fun _ _ _ h => h) (Or.inl ⟨by rfl, ?hy309⟩) (by assumption) ?rhy309
                    case hy309 => ((intro w hSw; (try dsimp only at hSw); go_simp); try with_reducible rfl)
                    try simp only [Act.put, List.setIfInBounds_toArray, List.set_cons_zero, List.set_cons_succ]
                    refine wpAnyH_done (by kernel_rfl) ?_ _
                    refine NoPanic.normal ?_
                    clear hHeld
                    cases q0 with
                    | true =>
                      go_wp2_with fail
                      refine (hHa.out _ hbw).mono ?_
                      rintro e w9 ⟨rfl, hb3⟩
                      replace hbw := hbw.trans (hb3.mono hbw.size)
                      clear hb3
                      go_wp2_with fail
                      refine (hHw.out _ hbw).mono ?_
                      rintro e w10 ⟨rfl, hb3⟩
                      replace hbw := hbw.trans (hb3.mono hbw.size)
                      clear hb3
                      cases h0v with
                      | true =>
                        replace hbf := Lib.hid hbw
                        clear hbw
                        go_wp2
                        exact ⟨⟨b, by simp, hb1'.2, by rw [hbl.out]; rfl, hbf.out⟩, by simp [intOf]; have := hb.out; omega⟩
                      | false =>
                        replace hbf := Lib.hid hbw
                        clear hbw
                        go_wp2
                        exact ⟨⟨b, by simp, hb1'.2, by rw [hbl.out]; rfl, hbf.out⟩, by simp [intOf]; have := hb.out; omega⟩
                    | false =>
                      go_wp2_with fail
                      refine (hHa.out _ hbw).mono ?_
                      rintro e w9 ⟨rfl, hb3⟩
                      replace hbw := hbw.trans (hb3.mono hbw.size)
                      clear hb3
                      go_wp2_with fail
                      refine (hHw.out _ hbw).mono ?_
                      rintro e w10 ⟨rfl, hb3⟩
                      replace hbw := hbw.trans (hb3.mono hbw.size)
                      clear hb3
                      cases h0v with
                      | true =>
                        replace hbf := Lib.hid hbw
                        clear hbw
                        go_wp2
                        exact ⟨⟨b, by simp, hb1'.2, by rw [hbl.out]; rfl, hbf.out⟩, by simp [intOf]; have := hb.out; omega⟩
                      | false =>
                        replace hbf := Lib.hid hbw
                        clear hbw
                        go_wp2
                        exact ⟨⟨b, by simp, hb1'.2, by rw [hbl.out]; rfl, hbf.out⟩, by simp [intOf]; have := hb.out; omega⟩
                  | false =>
                    cases d with
                    | true =>
                      refine wp_region_noPanic ?_
                      refine wp_region_held_drew (S := fun W => (W.cell? ⟨w.heap.size + 1, b, none⟩ = some (.bool false) ∧ W.cell? ⟨w.heap.size + 1, a, none⟩ = some (.bool false)) ∧ W.cell? ⟨w.heap.size, b, none⟩ = some (.int .i64 cb) ∧ W.cell? ⟨w.heap.size, a, none⟩ = some (.int .i64 ca)) (by kernel_rfl) (hS.out _ hbw.drew) (fun hHeld => ?_)
                      replace hbw := hbw.drew
                      refine wpAnyH_takeL (i := 0) (v := ?vhy310) rfl (by kernel_rfl) (by kernel_rfl) (by kernel_rfl) (fun _ _ _ h => h) (Or.inl ⟨by rfl, ?hy310⟩) (by assumption) ?rhy310
                      case hy310 => ((intro w hSw; (try dsimp only at hSw); go_simp); try with_reducible rfl)
                      try simp only [Act.put, List.setIfInBounds_toArray, List.set_cons_zero, List.set_cons_succ]
                      refine wpAnyH_takeL (i := 1) (v := ?vhy311) rfl (by kernel_rfl) (by kernel_rfl) (by kernel_rfl) (fun _ _ _ h => h) (Or.inl ⟨by rfl, ?hy311⟩) (by assumption) ?rhy311
                      case hy311 => ((intro w hSw; (try dsimp only at hSw); go_simp); try with_reducible rfl)
                      try simp only [Act.put, List.setIfInBounds_toArray, List.set_cons_zero, List.set_cons_succ]
                      refine wpAnyH_ready (rs := [2]) (by kernel_rfl) (by simp) ?_
                      refine AllReadyH.consL (i := 2) rfl (fun K hK => ?_) AllReadyH.nil
                      go_simp
                      refine (hHb.out _ hbw).mono ?_
                      rintro e w8 ⟨rfl, hb3⟩
                      replace hbw := hbw.trans (hb3.mono hbw.size)
                      refine hK.out _ _ (hS.out _ hbw) (fun hHeld => ?_)
                      clear hK hb3
                      refine wpAnyH_takeL (i := 3) (v := ?vhy312) rfl (by kernel_rfl) (by kernel_rfl) (by kernel_rfl) (fun _ _ _ h => h) (Or.inl ⟨by rfl, ?hy312⟩) (by assumption) ?rhy312
                      case hy312 => ((intro w hSw; (try dsimp only at hSw); go_simp); try with_reducible rfl)
                      try simp only [Act.put, List.setIfInBounds_toArray, List.set_cons_zero, List.set_cons_succ]
                      refine wpAnyH_takeL (i := 4) (v := ?vhy313) rfl (by kernel_rfl) (by kernel_rfl) (by kernel_rfl) (fun _ _ _ h => h) (Or.inl ⟨by rfl, ?hy313⟩) (by assumption) ?rhy313
                      case hy313 => ((intro w hSw; (try dsimp only at hSw); go_simp); try with_reducible rfl)
                      try simp only [Act.put, List.setIfInBounds_toArray, List.set_cons_zero, List.set_cons_succ]
                      refine wpAnyH_takeL (i := 5) (v := ?vhy314) rfl (by kernel_rfl) (by kernel_rfl) (by kernel_rfl) (fun _ _ _ h => h) (Or.inl ⟨by rfl, ?hy314⟩) (by assumption) ?rhy314
                      case hy314 => ((intro w hSw; (try dsimp only at hSw); go_simp); try with_reducible rfl)
                      try simp only [Act.put, List.setIfInBounds_toArray, List.set_cons_zero, List.set_cons_succ]
                      refine wpAnyH_takeL (i := 6) (v := ?vhy315) rfl (by kernel_rfl) (by kernel_rfl) (by kernel_rfl) (fun _ _ _ h => h) (Or.inl ⟨by rfl, ?hy315⟩) (by assumption) ?rhy315
                      case hy315 => ((intro w hSw; (try dsimp only at hSw); go_simp); try with_reducible rfl)
                      try simp only [Act.put, List.setIfInBounds_toArray, List.set_cons_zero, List.set_cons_succ]
                      refine wpAnyH_takeL (i := 7) (v := ?vhy316) rfl (by kernel_rfl) (by kernel_rfl) (by kernel_rfl) (fun _ _ _ h => h) (Or.inl ⟨by rfl, ?hy316⟩) (by assumption) ?rhy316
                      case hy316 => ((intro w hSw; (try dsimp only at hSw); go_simp); try with_reducible rfl)
                      try simp only [Act.put, List.setIfInBounds_toArray, List.set_cons_zero, List.set_cons_succ]
                      refine wpAnyH_takeL (i := 8) (v := ?vhy317) rfl (by kernel_rfl) (by kernel_rfl) (by kernel_rfl) (fun _ _ _ h => h) (Or.inl ⟨by rfl, ?hy317⟩) (by assumption) ?rhy317
                      case hy317 => ((intro w hSw; (try dsimp only at hSw); go_simp); try with_reducible rfl)
                      try simp only [Act.put, List.setIfInBounds_toArray, List.set_cons_zero, List.set_cons_succ]
                      refine wpAnyH_takeL (i := 9) (v := ?vhy318) rfl (by kernel_rfl) (by kernel_rfl) (by kernel_rfl) (fun _ _ _ h => h) (Or.inl ⟨by rfl, ?hy318⟩) (by assumption) ?rhy318
                      case hy318 => ((intro w hSw; (try dsimp only at hSw); go_simp); try with_reducible rfl)
                      try simp only [Act.put, List.setIfInBounds_toArray, List.set_cons_zero, List.set_cons_succ]
                      refine wpAnyH_takeL (i := 10) (v := undef) rfl (by kernel_rfl) (by kernel_rfl) (by kernel_rfl) (fun _ _ _ h => h) (Or.inr ⟨by rfl, rfl⟩) (by assumption) ?_
                      try simp only [Act.put, List.setIfInBounds_toArray, List.set_cons_zero, List.set_cons_succ]
                      refine wpAnyH_takeL (i := 11) (v := undef) rfl (by kernel_rfl) (by kernel_rfl) (by kernel_rfl) (fun _ _ _ h => h) (Or.inr ⟨by rfl, rfl⟩) (by assumption) ?_
                      try simp only [Act.put, List.setIfInBounds_toArray, List.set_cons_zero, List.set_cons_succ]
                      refine wpAnyH_takeL (i := 12) (v := undef) rfl (by kernel_rfl) (by kernel_rfl) (by kernel_rfl) (fun _ _ _ h => h) (Or.inr ⟨by rfl, rfl⟩) (by assumption) ?_
                      try simp only [Act.put, List.setIfInBounds_toArray, List.set_cons_zero, List.set_cons_succ]
                      refine wpAnyH_takeL (i := 13) (v := undef) rfl (by kernel_rfl) (by kernel_rfl) (by kernel_rfl) (fun _ _ _ h => h) (Or.inr ⟨by rfl, rfl⟩) (by assumption) ?_
                      try simp only [Act.put, List.setIfInBounds_toArray, List.set_cons_zero, List.set_cons_succ]
                      refine wpAnyH_takeL (i := 14) (v := ?vhy319) rfl (by kernel_rfl) (by kernel_rfl) (by kernel_rfl) (fun _ _ _ h => h) (Or.inl ⟨by rfl, ?hy319⟩) (by assumption) ?rhy319
                      case hy319 => ((intro w hSw; (try dsimp only at hSw); go_simp); try with_reducible rfl)
                      try simp only [Act.put, List.setIfInBounds_toArray, List.set_cons_zero, List.set_cons_succ]
                      refine wpAnyH_takeL (i := 15) (v := ?vhy320) rfl (by kernel_rfl) (by kernel_rfl) (by kernel_rfl) (fun _ _ _ h => h) (Or.inl ⟨by rfl, ?hy320⟩) (by assumption) ?rhy320
                      case hy320 => ((intro w hSw; (try dsimp only at hSw); go_simp); try with_reducible rfl)
                      try simp only [Act.put, List.setIfInBounds_toArray, List.set_cons_zero, List.set_cons_succ]
                      refine wpAnyH_takeL (i := 16) (v := ?vhy321) rfl (by kernel_rfl) (by kernel_rfl) (by kernel_rfl) (fun _ _ _ h => h) (Or.inl ⟨by rfl, ?hy321⟩) (by assumption) ?rhy321
                      case hy321 => ((intro w hSw; (try dsimp only at hSw); go_simp); try with_reducible rfl)
                      try simp only [Act.put, List.setIfInBounds_toArray, List.set_cons_zero, List.set_cons_succ]
                      refine wpAnyH_takeL (i := 17) (v := ?vhy322) rfl (by kernel_rfl) (by kernel_rfl) (by kernel_rfl) (fun _ _ _ h => h) (Or.inl ⟨by rfl, ?hy322⟩) (by assumption) ?rhy322
                      case hy322 => ((intro w hSw; (try dsimp only at hSw); go_simp); try with_reducible rfl)
                      try simp only [Act.put, List.setIfInBounds_toArray, List.set_cons_zero, List.set_cons_succ]
                      refine wpAnyH_takeL (i := 18) (v := ?vhy323) rfl (by kernel_rfl) (by kernel_rfl) (by kernel_rfl) (fun _ _ _ h => h) (Or.inl ⟨by rfl, ?hy323⟩) (by assumption) ?rhy323
                      case hy323 => ((intro w hSw; (try dsimp only at hSw); go_simp); try with_reducible rfl)
                      try simp only [Act.put, List.setIfInBounds_toArray, List.set_cons_zero, List.set_cons_succ]
                      refine wpAnyH_takeL (i := 19) (v := ?vhy324) rfl (by kernel_rfl) (by kernel_rfl) (by kernel_rfl) (fun _ _ _ h => h) (Or.inl ⟨by rfl, ?hy324⟩) (by assumption) ?rhy324
                      case hy324 => ((intro w hSw; (try dsimp only at hSw); go_simp); try with_reducible rfl)
                      try simp only [Act.put, List.setIfInBounds_toArray, List.set_cons_zero, List.set_cons_succ]
                      refine wpAnyH_takeL (i := 20) (v := ?vhy325) rfl (by kernel_rfl) (by kernel_rfl) (by kernel_rfl) (fun _ _ _ h => h) (Or.inl ⟨by rfl, ?hy325⟩) (by assumption) ?rhy325
                      case hy325 => ((intro w hSw; (try dsimp only at hSw); go_simp); try with_reducible rfl)
                      try simp only [Act.put, List.setIfInBounds_toArray, List.set_cons_zero, List.set_cons_succ]
                      refine wpAnyH_takeL (i := 21) (v := ?vhy326) rfl (by kernel_rfl) (by kernel_rfl) (by kernel_rfl) (fun _ _ _ h => h) (Or.inl ⟨by rfl, ?hy326⟩) (by assumption) ?rhy326
                      case hy326 => ((intro w hSw; (try dsimp only at hSw); go_simp); try with_reducible rfl)
                      try simp only [Act.put, List.setIfInBounds_toArray, List.set_cons_zero, List.set_cons_succ]
                      refine wpAnyH_takeL (i := 22) (v := ?vhy327) rfl (by kernel_rfl) (by kernel_rfl) (by kernel_rfl) (fun _ _ _ h => h) (Or.inl ⟨by rfl, ?hy327⟩) (by assumption) ?rhy327
                      case hy327 => ((intro w hSw; (try dsimp only at hSw); go_simp); try with_reducible rfl)
                      try simp only [Act.put, List.setIfInBounds_toArray, List.set_cons_zero, List.set_cons_succ]
                      refine wpAnyH_takeL (i := 23) (v := ?vhy328) rfl (by kernel_rfl) (by kernel_rfl) (by kernel_rfl) (fun _ _ _ h => h) (Or.inl ⟨by rfl, ?hy328⟩) (by assumption) ?rhy328
                      case hy328 => ((intro w hSw; (try dsimp only at hSw); go_simp); try with_reducible rfl)
                      try simp only [Act.put, List.setIfInBounds_toArray, List.set_cons_zero, List.set_cons_succ]
                      refine wpAnyH_takeL (i := 24) (v := ?vhy329) rfl (by kernel_rfl) (by kernel_rfl) (by kernel_rfl) (fun _ _ _ h => h) (Or.inl ⟨by rfl, ?hy329⟩) (by assumption) ?rhy329
                      case hy329 => ((intro w hSw; (try dsimp only at hSw); go_simp); try with_reducible rfl)
                      try simp only [Act.put, List.setIfInBounds_toArray, List.set_cons_zero, List.set_cons_succ]
                      refine wpAnyH_takeL (i := 25) (v := ?vhy330) rfl (by kernel_rfl) (by kernel_rfl) (by kernel_rfl) (fun _ _ _ h => h) (Or.inl ⟨by rfl, ?hy330⟩) (by assumption) ?rhy330
                      case hy330 => ((intro w hSw; (try dsimp only at hSw); go_simp); try with_reducible rfl)
                      try simp only [Act.put, List.setIfInBounds_toArray, List.set_cons_zero, List.set_cons_succ]
                      refine wpAnyH_takeL (i := 26) (v := ?vhy331) rfl (by kernel_rfl) (by kernel_rfl) (by kernel_rfl) (fun _ _ _ h => h) (Or.inl ⟨by rfl, ?hy331⟩) (by assumption) ?rhy331
                      case hy331 => ((intro w hSw; (try dsimp only at hSw); go_simp); try with_reducible rfl)
                      try simp only [Act.put, List.setIfInBounds_toArray, List.set_cons_zero, List.set_cons_succ]
                      refine wpAnyH_takeL (i := 27) (v := ?vhy332) rfl (by kernel_rfl) (by kernel_rfl) (by kernel_rfl) (fun _ _ _ h => h) (Or.inl ⟨by rfl, ?hy332⟩) (by assumption) ?rhy332
                      case hy332 => ((intro w hSw; (try dsimp only at hSw); go_simp); try with_reducible rfl)
                      try simp only [Act.put, List.setIfInBounds_toArray, List.set_cons_zero, List.set_cons_succ]
                      refine wpAnyH_takeL (i := 28) (v := ?vhy333) rfl (by kernel_rfl) (by kernel_rfl) (by kernel_rfl) (fun _ _ _ h => h) (Or.inl ⟨by rfl, ?hy333⟩) (by assumption) ?rhy333
                      case hy333 => ((intro w hSw; (try dsimp only at hSw); go_simp); try with_reducible rfl)
                      try simp only [Act.put, List.setIfInBounds_toArray, List.set_cons_zero, List.set_cons_succ]
                      refine wpAnyH_takeL (i := 29) (v := ?vhy334) rfl (by kernel_rfl) (by kernel_rfl) (by kernel_rfl) (fun _ _ _ h => h) (Or.inl ⟨by rfl, ?hy334⟩) (by assumption) ?rhy334
                      case hy334 => ((intro w hSw; (try dsimp only at hSw); go_simp); try with_reducible rfl)
                      try simp only [Act.put, List.setIfInBounds_toArray, List.set_cons_zero, List.set_cons_succ]
                      refine wpAnyH_takeL (i := 30) (v := ?vhy335) rfl (by kernel_rfl) (by kernel_rfl) (by kernel_rfl) (fun _ _ _ h => h) (Or.inl ⟨by rfl, ?hy335⟩) (by assumption) ?rhy335
                      case hy335 => ((intro w hSw; (try dsimp only at hSw); go_simp); try with_reducible rfl)
                      try simp only [Act.put, List.setIfInBounds_toArray, List.set_cons_zero, List.set_cons_succ]
                      refine wpAnyH_takeL (i := 31) (v := ?vhy336) rfl (by kernel_rfl) (by kernel_rfl) (by kernel_rfl) (fun _ _ _ h => h) (Or.inl ⟨by rfl, ?hy336⟩) (by assumption) ?rhy336
                      case hy336 => ((intro w hSw; (try dsimp only at hSw); go_simp); try with_reducible rfl)
                      try simp only [Act.put, List.setIfInBounds_toArray, List.set_cons_zero, List.set_cons_succ]
                      refine wpAnyH_takeL (i := 32) (v := ?vhy337) rfl (by kernel_rfl) (by kernel_rfl) (by kernel_rfl) (fun _ _ _ h => h) (Or.inl ⟨by rfl, ?hy337⟩) (by assumption) ?rhy337
                      case hy337 => ((intro w hSw; (try dsimp only at hSw); go_simp); try with_reducible rfl)
                      try simp only [Act.put, List.setIfInBounds_toArray, List.set_cons_zero, List.set_cons_succ]
                      refine wpAnyH_takeL (i := 33) (v := ?vhy338) rfl (by kernel_rfl) (by kernel_rfl) (by kernel_rfl) (fun _ _ _ h => h) (Or.inl ⟨by rfl, ?hy338⟩) (by assumption) ?rhy338
                      case hy338 => ((intro w hSw; (try dsimp only at hSw); go_simp); try with_reducible rfl)
                      try simp only [Act.put, List.setIfInBounds_toArray, List.set_cons_zero, List.set_cons_succ]
                      refine wpAnyH_takeL (i := 34) (v := ?vhy339) rfl (by kernel_rfl) (by kernel_rfl) (by kernel_rfl) (fun _ _ _ h => h) (Or.inl ⟨by rfl, ?hy339⟩) (by assumption) ?rhy339
                      case hy339 => ((intro w hSw; (try dsimp only at hSw); go_simp); try with_reducible rfl)
                      try simp only [Act.put, List.setIfInBounds_toArray, List.set_cons_zero, List.set_cons_succ]
                      refine wpAnyH_takeL (i := 35) (v := ?vhy340) rfl (by kernel_rfl) (by kernel_rfl) (by kernel_rfl) (fun _ _ _ h => h) (Or.inl ⟨by rfl, ?hy340⟩) (by assumption) ?rhy340
                      case hy340 => ((intro w hSw; (try dsimp only at hSw); go_simp); try with_reducible rfl)
                      try simp only [Act.put, List.setIfInBounds_toArray, List.set_cons_zero, List.set_cons_succ]
                      refine wpAnyH_done (by kernel_rfl) ?_ _
                      refine NoPanic.normal ?_
                      clear hHeld
                      cases q0 with
                      | true =>
                        go_wp2_with fail
                        refine (hHa.out _ hbw).mono ?_
                        rintro e w9 ⟨rfl, hb3⟩
                        replace hbw := hbw.trans (hb3.mono hbw.size)
                        clear hb3
                        go_wp2_with fail
                        refine (hHw.out _ hbw).mono ?_
                        rintro e w10 ⟨rfl, hb3⟩
                        replace hbw := hbw.trans (hb3.mono hbw.size)
                        clear hb3
                        cases h0v with
                        | true =>
                          replace hbf := Lib.hid hbw
                          clear hbw
                          go_wp2
                          exact ⟨⟨b, by simp, hb1'.2, by rw [hbl.out]; rfl, hbf.out⟩, by simp [intOf]; have := hb.out; omega⟩
                        | false =>
                          exact absurd F2.out (by simp)
                      | false =>
                        go_wp2_with fail
                        refine (hHa.out _ hbw).mono ?_
                        rintro e w9 ⟨rfl, hb3⟩
                        replace hbw := hbw.trans (hb3.mono hbw.size)
                        clear hb3
                        go_wp2_with fail
                        refine (hHw.out _ hbw).mono ?_
                        rintro e w10 ⟨rfl, hb3⟩
                        replace hbw := hbw.trans (hb3.mono hbw.size)
                        clear hb3
                        cases h0v with
                        | true =>
                          replace hbf := Lib.hid hbw
                          clear hbw
                          go_wp2
                          exact ⟨⟨b, by simp, hb1'.2, by rw [hbl.out]; rfl, hbf.out⟩, by simp [intOf]; have := hb.out; omega⟩
                        | false =>
                          exact absurd F2.out (by simp)
                    | false =>
                      refine wp_region_noPanic ?_
                      refine wp_region_held_drew (S := fun W => (W.cell? ⟨w.heap.size + 1, b, none⟩ = some (.bool false) ∧ W.cell? ⟨w.heap.size + 1, a, none⟩ = some (.bool false)) ∧ W.cell? ⟨w.heap.size, b, none⟩ = some (.int .i64 cb) ∧ W.cell? ⟨w.heap.size, a, none⟩ = some (.int .i64 ca)) (by kernel_rfl) (hS.out _ hbw.drew) (fun hHeld => ?_)
                      replace hbw := hbw.drew
                      refine wpAnyH_takeL (i := 0) (v := ?vhy341) rfl (by kernel_rfl) (by kernel_rfl) (by kernel_rfl) (fun _ _ _ h => h) (Or.inl ⟨by rfl, ?hy341⟩) (by assumption) ?rhy341
                      case hy341 => ((intro w hSw; (try dsimp only at hSw); go_simp); try with_reducible rfl)
                      try simp only [Act.put, List.setIfInBounds_toArray, List.set_cons_zero, List.set_cons_succ]
                      refine wpAnyH_takeL (i := 1) (v := ?vhy342) rfl (by kernel_rfl) (by kernel_rfl) (by kernel_rfl) (fun _ _ _ h => h) (Or.inl ⟨by rfl, ?hy342⟩) (by assumption) ?rhy342
                      case hy342 => ((intro w hSw; (try dsimp only at hSw); go_simp); try with_reducible rfl)
                      try simp only [Act.put, List.setIfInBounds_toArray, List.set_cons_zero, List.set_cons_succ]
                      refine wpAnyH_ready (rs := [2]) (by kernel_rfl) (by simp) ?_
                      refine AllReadyH.consL (i := 2) rfl (fun K hK => ?_) AllReadyH.nil
                      go_simp
                      refine (hHb.out _ hbw).mono ?_
                      rintro e w8 ⟨rfl, hb3⟩
                      replace hbw := hbw.trans (hb3.mono hbw.size)
                      refine hK.out _ _ (hS.out _ hbw) (fun hHeld => ?_)
                      clear hK hb3
                      refine wpAnyH_takeL (i := 3) (v := ?vhy343) rfl (by kernel_rfl) (by kernel_rfl) (by kernel_rfl) (fun _ _ _ h => h) (Or.inl ⟨by rfl, ?hy343⟩) (by assumption) ?rhy343
                      case hy343 => ((intro w hSw; (try dsimp only at hSw); go_simp); try with_reducible rfl)
                      try simp only [Act.put, List.setIfInBounds_toArray, List.set_cons_zero, List.set_cons_succ]
                      refine wpAnyH_takeL (i := 4) (v := ?vhy344) rfl (by kernel_rfl) (by kernel_rfl) (by kernel_rfl) (fun _ _ _ h => h) (Or.inl ⟨by rfl, ?hy344⟩) (by assumption) ?rhy344
                      case hy344 => ((intro w hSw; (try dsimp only at hSw); go_simp); try with_reducible rfl)
                      try simp only [Act.put, List.setIfInBounds_toArray, List.set_cons_zero, List.set_cons_succ]
                      refine wpAnyH_takeL (i := 5) (v := ?vhy345) rfl (by kernel_rfl) (by kernel_rfl) (by kernel_rfl) (fun _ _ _ h => h) (Or.inl ⟨by rfl, ?hy345⟩) (by assumption) ?rhy345
                      case hy345 => ((intro w hSw; (try dsimp only at hSw); go_simp); try with_reducible rfl)
                      try simp only [Act.put, List.setIfInBounds_toArray, List.set_cons_zero, List.set_cons_succ]
                      refine wpAnyH_takeL (i := 6) (v := ?vhy346) rfl (by kernel_rfl) (by kernel_rfl) (by kernel_rfl) (fun _ _ _ h => h) (Or.inl ⟨by rfl, ?hy346⟩) (by assumption) ?rhy346
                      case hy346 => ((intro w hSw; (try dsimp only at hSw); go_simp); try with_reducible rfl)
                      try simp only [Act.put, List.setIfInBounds_toArray, List.set_cons_zero, List.set_cons_succ]
                      refine wpAnyH_takeL (i := 7) (v := ?vhy347) rfl (by kernel_rfl) (by kernel_rfl) (by kernel_rfl) (fun _ _ _ h => h) (Or.inl ⟨by rfl, ?hy347⟩) (by assumption) ?rhy347
                      case hy347 => ((intro w hSw; (try dsimp only at hSw); go_simp); try with_reducible rfl)
                      try simp only [Act.put, List.setIfInBounds_toArray, List.set_cons_zero, List.set_cons_succ]
                      refine wpAnyH_takeL (i := 8) (v := ?vhy348) rfl (by kernel_rfl) (by kernel_rfl) (by kernel_rfl) (fun _ _ _ h => h) (Or.inl ⟨by rfl, ?hy348⟩) (by assumption) ?rhy348
                      case hy348 => ((intro w hSw; (try dsimp only at hSw); go_simp); try with_reducible rfl)
                      try simp only [Act.put, List.setIfInBounds_toArray, List.set_cons_zero, List.set_cons_succ]
                      refine wpAnyH_takeL (i := 9) (v := ?vhy349) rfl (by kernel_rfl) (by kernel_rfl) (by kernel_rfl) (fun _ _ _ h => h) (Or.inl ⟨by rfl, ?hy349⟩) (by assumption) ?rhy349
                      case hy349 => ((intro w hSw; (try dsimp only at hSw); go_simp); try with_reducible rfl)
                      try simp only [Act.put, List.setIfInBounds_toArray, List.set_cons_zero, List.set_cons_succ]
                      refine wpAnyH_takeL (i := 10) (v := undef) rfl (by kernel_rfl) (by kernel_rfl) (by kernel_rfl) (fun _ _ _ h => h) (Or.inr ⟨by rfl, rfl⟩) (by assumption) ?_
                      try simp only [Act.put, List.setIfInBounds_toArray, List.set_cons_zero, List.set_cons_succ]
                      refine wpAnyH_takeL (i := 11) (v := undef) rfl (by kernel_rfl) (by kernel_rfl) (by kernel_rfl) (fun _ _ _ h => h) (Or.inr ⟨by rfl, rfl⟩) (by assumption) ?_
                      try simp only [Act.put, List.setIfInBounds_toArray, List.set_cons_zero, List.set_cons_succ]
                      refine wpAnyH_takeL (i := 12) (v := undef) rfl (by kernel_rfl) (by kernel_rfl) (by kernel_rfl) (fun _ _ _ h => h) (Or.inr ⟨by rfl, rfl⟩) (by assumption) ?_
                      try simp only [Act.put, List.setIfInBounds_toArray, List.set_cons_zero, List.set_cons_succ]
                      refine wpAnyH_takeL (i := 13) (v := undef) rfl (by kernel_rfl) (by kernel_rfl) (by kernel_rfl) (fun _ _ _ h => h) (Or.inr ⟨by rfl, rfl⟩) (by assumption) ?_
                      try simp only [Act.put, List.setIfInBounds_toArray, List.set_cons_zero, List.set_cons_succ]
                      refine wpAnyH_takeL (i := 14) (v := ?vhy350) rfl (by kernel_rfl) (by kernel_rfl) (by kernel_rfl) (fun _ _ _ h => h) (Or.inl ⟨by rfl, ?hy350⟩) (by assumption) ?rhy350
                      case hy350 => ((intro w hSw; (try dsimp only at hSw); go_simp); try with_reducible rfl)
                      try simp only [Act.put, List.setIfInBounds_toArray, List.set_cons_zero, List.set_cons_succ]
                      refine wpAnyH_takeL (i := 15) (v := ?vhy351) rfl (by kernel_rfl) (by kernel_rfl) (by kernel_rfl) (fun _ _ _ h => h) (Or.inl ⟨by rfl, ?hy351⟩) (by assumption) ?rhy351
                      case hy351 => ((intro w hSw; (try dsimp only at hSw); go_simp); try with_reducible rfl)
                      try simp only [Act.put, List.setIfInBounds_toArray, List.set_cons_zero, List.set_cons_succ]
                      refine wpAnyH_takeL (i := 16) (v := ?vhy352) rfl (by kernel_rfl) (by kernel_rfl) (by kernel_rfl) (fun _ _ _ h => h) (Or.inl ⟨by rfl, ?hy352⟩) (by assumption) ?rhy352
                      case hy352 => ((intro w hSw; (try dsimp only at hSw); go_simp); try with_reducible rfl)
                      try simp only [Act.put, List.setIfInBounds_toArray, List.set_cons_zero, List.set_cons_succ]
                      refine wpAnyH_takeL (i := 17) (v := ?vhy353) rfl (by kernel_rfl) (by kernel_rfl) (by kernel_rfl) (fun _ _ _ h => h) (Or.inl ⟨by rfl, ?hy353⟩) (by assumption) ?rhy353
                      case hy353 => ((intro w hSw; (try dsimp only at hSw); go_simp); try with_reducible rfl)
                      try simp only [Act.put, List.setIfInBounds_toArray, List.set_cons_zero, List.set_cons_succ]
                      refine wpAnyH_takeL (i := 18) (v := ?vhy354) rfl (by kernel_rfl) (by kernel_rfl) (by kernel_rfl) (fun _ _ _ h => h) (Or.inl ⟨by rfl, ?hy354⟩) (by assumption) ?rhy354
                      case hy354 => ((intro w hSw; (try dsimp only at hSw); go_simp); try with_reducible rfl)
                      try simp only [Act.put, List.setIfInBounds_toArray, List.set_cons_zero, List.set_cons_succ]
                      refine wpAnyH_takeL (i := 19) (v := ?vhy355) rfl (by kernel_rfl) (by kernel_rfl) (by kernel_rfl) (fun _ _ _ h => h) (Or.inl ⟨by rfl, ?hy355⟩) (by assumption) ?rhy355
                      case hy355 => ((intro w hSw; (try dsimp only at hSw); go_simp); try with_reducible rfl)
                      try simp only [Act.put, List.setIfInBounds_toArray, List.set_cons_zero, List.set_cons_succ]
                      refine wpAnyH_takeL (i := 20) (v := ?vhy356) rfl (by kernel_rfl) (by kernel_rfl) (by kernel_rfl) (fun _ _ _ h => h) (Or.inl ⟨by rfl, ?hy356⟩) (by assumption) ?rhy356
                      case hy356 => ((intro w hSw; (try dsimp only at hSw); go_simp); try with_reducible rfl)
                      try simp only [Act.put, List.setIfInBounds_toArray, List.set_cons_zero, List.set_cons_succ]
                      refine wpAnyH_takeL (i := 21) (v := ?vhy357) rfl (by kernel_rfl) (by kernel_rfl) (by kernel_rfl) (fun _ _ _ h => h) (Or.inl ⟨by rfl, ?hy357⟩) (by assumption) ?rhy357
                      case hy357 => ((intro w hSw; (try dsimp only at hSw); go_simp); try with_reducible rfl)
                      try simp only [Act.put, List.setIfInBounds_toArray, List.set_cons_zero, List.set_cons_succ]
                      refine wpAnyH_takeL (i := 22) (v := ?vhy358) rfl (by kernel_rfl) (by kernel_rfl) (by kernel_rfl) (fun _ _ _ h => h) (Or.inl ⟨by rfl, ?hy358⟩) (by assumption) ?rhy358
                      case hy358 => ((intro w hSw; (try dsimp only at hSw); go_simp); try with_reducible rfl)
                      try simp only [Act.put, List.setIfInBounds_toArray, List.set_cons_zero, List.set_cons_succ]
                      refine wpAnyH_takeL (i := 23) (v := ?vhy359) rfl (by kernel_rfl) (by kernel_rfl) (by kernel_rfl) (fun _ _ _ h => h) (Or.inl ⟨by rfl, ?hy359⟩) (by assumption) ?rhy359
                      case hy359 => ((intro w hSw; (try dsimp only at hSw); go_simp); try with_reducible rfl)
                      try simp only [Act.put, List.setIfInBounds_toArray, List.set_cons_zero, List.set_cons_succ]
                      refine wpAnyH_takeL (i := 24) (v := ?vhy360) rfl (by kernel_rfl) (by kernel_rfl) (by kernel_rfl) (fun _ _ _ h => h) (Or.inl ⟨by rfl, ?hy360⟩) (by assumption) ?rhy360
                      case hy360 => ((intro w hSw; (try dsimp only at hSw); go_simp); try with_reducible rfl)
                      try simp only [Act.put, List.setIfInBounds_toArray, List.set_cons_zero, List.set_cons_succ]
                      refine wpAnyH_takeL (i := 25) (v := ?vhy361) rfl (by kernel_rfl) (by kernel_rfl) (by kernel_rfl) (fun _ _ _ h => h) (Or.inl ⟨by rfl, ?hy361⟩) (by assumption) ?rhy361
                      case hy361 => ((intro w hSw; (try dsimp only at hSw); go_simp); try with_reducible rfl)
                      try simp only [Act.put, List.setIfInBounds_toArray, List.set_cons_zero, List.set_cons_succ]
                      refine wpAnyH_takeL (i := 26) (v := ?vhy362) rfl (by kernel_rfl) (by kernel_rfl) (by kernel_rfl) (fun _ _ _ h => h) (Or.inl ⟨by rfl, ?hy362⟩) (by assumption) ?rhy362
                      case hy362 => ((intro w hSw; (try dsimp only at hSw); go_simp); try with_reducible rfl)
                      try simp only [Act.put, List.setIfInBounds_toArray, List.set_cons_zero, List.set_cons_succ]
                      refine wpAnyH_takeL (i := 27) (v := ?vhy363) rfl (by kernel_rfl) (by kernel_rfl) (by kernel_rfl) (fun _ _ _ h => h) (Or.inl ⟨by rfl, ?hy363⟩) (by assumption) ?rhy363
                      case hy363 => ((intro w hSw; (try dsimp only at hSw); go_simp); try with_reducible rfl)
                      try simp only [Act.put, List.setIfInBounds_toArray, List.set_cons_zero, List.set_cons_succ]
                      refine wpAnyH_takeL (i := 28) (v := ?vhy364) rfl (by kernel_rfl) (by kernel_rfl) (by kernel_rfl) (fun _ _ _ h => h) (Or.inl ⟨by rfl, ?hy364⟩) (by assumption) ?rhy364
                      case hy364 => ((intro w hSw; (try dsimp only at hSw); go_simp); try with_reducible rfl)
                      try simp only [Act.put, List.setIfInBounds_toArray, List.set_cons_zero, List.set_cons_succ]
                      refine wpAnyH_takeL (i := 29) (v := ?vhy365) rfl (by kernel_rfl) (by kernel_rfl) (by kernel_rfl) (fun _ _ _ h => h) (Or.inl ⟨by rfl, ?hy365⟩) (by assumption) ?rhy365
                      case hy365 => ((intro w hSw; (try dsimp only at hSw); go_simp); try with_reducible rfl)
                      try simp only [Act.put, List.setIfInBounds_toArray, List.set_cons_zero, List.set_cons_succ]
                      refine wpAnyH_takeL (i := 30) (v := ?vhy366) rfl (by kernel_rfl) (by kernel_rfl) (by kernel_rfl) (fun _ _ _ h => h) (Or.inl ⟨by rfl, ?hy366⟩) (by assumption) ?rhy366
                      case hy366 => ((intro w hSw; (try dsimp only at hSw); go_simp); try with_reducible rfl)
                      try simp only [Act.put, List.setIfInBounds_toArray, List.set_cons_zero, List.set_cons_succ]
                      refine wpAnyH_takeL (i := 31) (v := ?vhy367) rfl (by kernel_rfl) (by kernel_rfl) (by kernel_rfl) (fun _ _ _ h => h) (Or.inl ⟨by rfl, ?hy367⟩) (by assumption) ?rhy367
                      case hy367 => ((intro w hSw; (try dsimp only at hSw); go_simp); try with_reducible rfl)
                      try simp only [Act.put, List.setIfInBounds_toArray, List.set_cons_zero, List.set_cons_succ]
                      refine wpAnyH_takeL (i := 32) (v := ?vhy368) rfl (by kernel_rfl) (by kernel_rfl) (by kernel_rfl) (fun _ _ _ h => h) (Or.inl ⟨by rfl, ?hy368⟩) (by assumption) ?rhy368
                      case hy368 => ((intro w hSw; (try dsimp only at hSw); go_simp); try with_reducible rfl)
                      try simp only [Act.put, List.setIfInBounds_toArray, List.set_cons_zero, List.set_cons_succ]
                      refine wpAnyH_takeL (i := 33) (v := ?vhy369) rfl (by kernel_rfl) (by kernel_rfl) (by kernel_rfl) (fun _ _ _ h => h) (Or.inl ⟨by rfl, ?hy369⟩) (by assumption) ?rhy369
                      case hy369 => ((intro w hSw; (try dsimp only at hSw); go_simp); try with_reducible rfl)
                      try simp only [Act.put, List.setIfInBounds_toArray, List.set_cons_zero, List.set_cons_succ]
                      refine wpAnyH_takeL (i := 34) (v := ?vhy370) rfl (by kernel_rfl) (by kernel_rfl) (by kernel_rfl) (fun _ _ _ h => h) (Or.inl ⟨by rfl, ?hy370⟩) (by assumption) ?rhy370
                      case hy370 => ((intro w hSw; (try dsimp only at hSw); go_simp); try with_reducible rfl)
                      try simp only [Act.put, List.setIfInBounds_toArray, List.set_cons_zero, List.set_cons_succ]
                      refine wpAnyH_takeL (i := 35) (v := ?vhy371) rfl (by kernel_rfl) (by kernel_rfl) (by kernel_rfl) (fun _ _ _ h => h) (Or.inl ⟨by rfl, ?hy371⟩) (by assumption) ?rhy371
                      case hy371 => ((intro w hSw; (try dsimp only at hSw); go_simp); try with_reducible rfl)
                      try simp only [Act.put, List.setIfInBounds_toArray, List.set_cons_zero, List.set_cons_succ]
                      refine wpAnyH_done (by kernel_rfl) ?_ _
                      refine NoPanic.normal ?_
                      clear hHeld
                      cases q0 with
                      | true =>
                        go_wp2_with fail
                        refine (hHa.out _ hbw).mono ?_
                        rintro e w9 ⟨rfl, hb3⟩
                        replace hbw := hbw.trans (hb3.mono hbw.size)
                        clear hb3
                        go_wp2_with fail
                        refine (hHw.out _ hbw).mono ?_
                        rintro e w10 ⟨rfl, hb3⟩
                        replace hbw := hbw.trans (hb3.mono hbw.size)
                        clear hb3
                        cases h0v with
                        | true =>
                          replace hbf := Lib.hid hbw
                          clear hbw
                          go_wp2
                          exact ⟨⟨b, by simp, hb1'.2, by rw [hbl.out]; rfl, hbf.out⟩, by simp [intOf]; have := hb.out; omega⟩
                        | false =>
                          replace hbf := Lib.hid hbw
                          clear hbw
                          go_wp2
                          exact ⟨⟨b, by simp, hb1'.2, by rw [hbl.out]; rfl, hbf.out⟩, by simp [intOf]; have := hb.out; omega⟩
                      | false =>
                        go_wp2_with fail
                        refine (hHa.out _ hbw).mono ?_
                        rintro e w9 ⟨rfl, hb3⟩
                        replace hbw := hbw.trans (hb3.mono hbw.size)
                        clear hb3
                        go_wp2_with fail
                        refine (hHw.out _ hbw).mono ?_
                        rintro e w10 ⟨rfl, hb3⟩
                        replace hbw := hbw.trans (hb3.mono hbw.size)
                        clear hb3
                        cases h0v with
                        | true =>
                          replace hbf := Lib.hid hbw
                          clear hbw
                          go_wp2
                          exact ⟨⟨b, by simp, hb1'.2, by rw [hbl.out]; rfl, hbf.out⟩, by simp [intOf]; have := hb.out; omega⟩
                        | false =>
                          replace hbf := Lib.hid hbw
                          clear hbw
                          go_wp2
                          exact ⟨⟨b, by simp, hb1'.2, by rw [hbl.out]; rfl, hbf.out⟩, by simp [intOf]; have := hb.out; omega⟩
        · obtain rfl : b0 = 16 := by omega
          cases va with
          | false =>
            replace hbf := Lib.hid hbw
            clear hbw
            go_wp2
            exact ⟨⟨a, by simp, by have := ha.out; omega, hbf.out⟩, by simp [intOf]; have := ha.out; omega⟩
          | true =>
            have hbT : blkF came first zs a 16 = true := hg.bl a (by have := ha.out; omega) (by have := ha.out; omega) hva.out
            have hti := hg.ti a (by have := ha.out; omega) (by have := ha.out; omega) hva.out
            rw [hsa.out] at hti
            have hwp : IntKind.i64.wrap (now - sa) = now - sa := by rw [IntKind.wrap_i64]; omega
            have hdl : decide (1000 ≤ now - sa) = false := by simp; omega
            clear hti
            rw [hbT]
            replace hbT := Lib.hid hbT
            go_wp2_with fail
            refine (hNo.out _ hbw).mono ?_
            rintro e w9 ⟨rfl, rfl⟩
            replace hbf := Lib.hid hbw
            clear hbw
            go_wp2
            exact ⟨⟨a, by simp, by have := ha.out; omega, hbf.out⟩, by simp [intOf]; have := ha.out; omega⟩
    · obtain rfl : a0 = 16 := by omega
      replace hbf := Lib.hid (gr hb2 hbw)
      clear hbw
      go_wp2
      go_ret
      exact ⟨rfl, hbf.out⟩
end Go.Proofs.YtnjhhibjcfjhnaaDoor
