/- Law 06: ConvertRows. -/
import Derived.Test.YtagoooclfcbdeaaGreatDoorCvV
import Derived.Test.YtagoooclfcbdeaaGreatDoorCvY
namespace Go.Proofs.YtagoooclfcbdeaaGreatDoor
open Go.RowKit
set_option linter.unusedVariables false
attribute [local go_sem] strL_size

theorem ordV_zero {x y : Vl} : ordV x y = 0 ↔ x = y := by
  obtain ⟨a1, a2, a3, a4⟩ := x
  obtain ⟨b1, b2, b3, b4⟩ := y
  unfold ordV byV
  dsimp only
  simp only [Vl.mk.injEq]
  repeat' split
  all_goals simp_all
theorem listsV_refl : ∀ xs : List Vl, listsV xs xs = 0
  | [] => rfl
  | x :: xs => by
    have h : ordV x x = 0 := ordV_zero.2 rfl
    rw [listsV, if_neg (by simp [h]), listsV_refl xs]
set_option maxRecDepth 100000 in
theorem rows_big (A : Option Addr) (n c : Nat) (B : Option Addr) (m d0 : Nat) (C : Option Addr) (k e0 : Nat) (w : World) (hE : Env w) (h : 10 < n ∨ 10 < m ∨ 10 < k) :
    Calls Tryz.prog 6 #[.slice A n c, .slice B m d0, .slice C k e0] w (TrueP w) := by
  have hW := Lib.hid (fun W h => lworks_any W h)
  by_cases h1 : 10 < n
  · have d1 : decide (10 < (n : Int)) = true := by simp; omega
    go_enter Tryz.func6, Tryz.ntmps6
    go_wp2_with fail
    refine (hW.out _ hE).mono ?_
    rintro e w9 ⟨rfl, g9⟩
    clear hW
    go_wp2
    go_ret
    exact ⟨rfl, g9⟩
  · have d1 : decide (10 < (n : Int)) = false := by simp; omega
    by_cases h2 : 10 < m
    · have d2 : decide (10 < (m : Int)) = true := by simp; omega
      go_enter Tryz.func6, Tryz.ntmps6
      go_wp2_with fail
      refine (hW.out _ hE).mono ?_
      rintro e w9 ⟨rfl, g9⟩
      clear hW
      go_wp2
      go_ret
      exact ⟨rfl, g9⟩
    · have d2 : decide (10 < (m : Int)) = false := by simp; omega
      have d3 : decide (10 < (k : Int)) = true := by simp; omega
      go_enter Tryz.func6, Tryz.ntmps6
      go_wp2_with fail
      refine (hW.out _ hE).mono ?_
      rintro e w9 ⟨rfl, g9⟩
      clear hW
      go_wp2
      go_ret
      exact ⟨rfl, g9⟩
set_option maxRecDepth 100000 in
set_option maxHeartbeats 8000000 in
theorem rows_any (A : Option Addr) (n c : Nat) (fs : List Cl) (B : Option Addr) (m d0 : Nat) (ts : List Cl) (C : Option Addr) (k e0 : Nat) (vs : List Vl) (w : World) (hE : Env w) (hf : Rv w 4 A n c (ccells fs)) (ht : Rv w 4 B m d0 (ccells ts)) (hx : Rv w 4 C k e0 (vcells vs)) (hwf : ∀ x ∈ vs, x.Wf) :
    Calls Tryz.prog 6 #[.slice A n c, .slice B m d0, .slice C k e0] w (TrueP w) := by
  by_cases hbig : 10 < n ∨ 10 < m ∨ 10 < k
  · exact rows_big A n c B m d0 C k e0 w hE hbig
  have hfn : fs.length = n := by have := hf.1; rw [ccells_length] at this; omega
  have htn : ts.length = m := by have := ht.1; rw [ccells_length] at this; omega
  have hxn : vs.length = k := by have := hx.1; rw [vcells_length] at this; omega
  have n10 : n ≤ 10 := by omega
  have m10 : m ≤ 10 := by omega
  have k10 : k ≤ 10 := by omega
  clear hbig
  have d1 : decide (10 < (n : Int)) = false := by simp; omega
  have d2 : decide (10 < (m : Int)) = false := by simp; omega
  have d3 : decide (10 < (k : Int)) = false := by simp; omega
  have hW := Lib.hid (fun W h => lworks_any W h)
  have hc1 := hf.2.2.1
  have hc2 := ht.2.2.1
  have hc3 := hx.2.2.1
  go_enter Tryz.func6, Tryz.ntmps6
  go_wp2
  go_loopw [7] (fun p wr => ∃ i : Nat, p = .int .i64 (i : Int) ∧ i ≤ 10 ∧ Below w.heap.size w wr ∧ (∀ f ∈ fs.take i, f.n.length ≤ 40) ∧ (∀ f ∈ ts.take i, f.n.length ≤ 40) ∧ ∀ x ∈ vs.take i, x.s.length ≤ 300)
    (fun p wr => 10 - (intOf p).toNat)
  case atStart => exact ⟨0, rfl, by omega, Below.refl _ _, by simp, by simp, by simp⟩
  case round =>
    obtain ⟨i, rfl, hi, hbw, pA, pB, pC⟩ := hrel
    clear d1 d2 d3
    by_cases hlt : i < 10
    · have hq : decide ((i : Int) < 10) = true := by simp; omega
      by_cases lA : i < n
      · obtain ⟨bA, oA, rfl, hbA, hcA⟩ := hf.2.2.2 (by omega)
        have ef := ccells_cell hcA (fun o => hbw.cell (p := ⟨bA, o, none⟩) hbA) i (by omega)
        have tk := (List.take_succ_eq_append_getElem (l := fs) (i := i) (by omega))
        have lAi : (i : Int) < (n : Int) := by omega
        have dA : decide ((i : Int) < (n : Int)) = true := by simp; omega
        generalize fs[i]'(by omega) = f at *
        obtain ⟨cn', ct', cz', cl'⟩ := f
        simp only at ef
        have hS := Lib.hid (fun W => lshort_any ⟨cn', ct', cz', cl'⟩ W)
        by_cases sA : cn'.length ≤ 40
        · have hd : decide ((cn'.length : Int) ≤ 40) = true := by simp; omega
          have qA : ∀ f ∈ fs.take (i + 1), f.n.length ≤ 40 := by
            rw [tk]
            intro f hf
            rcases List.mem_append.1 hf with hf | hf
            · exact pA f hf
            · rw [List.mem_singleton.1 hf]; exact sA
          replace qA := Lib.hid qA
          dsimp only [Cl.val] at hS
          rw [hd] at hS
          clear hd sA tk hcA
          go_wp2_with fail
          refine (hS.out _).mono ?_
          rintro e wA ⟨rfl, gA⟩
          have zA := gr hbw gA
          clear gA hS ef
          by_cases lB : i < m
          · obtain ⟨bB, oB, rfl, hbB, hcB⟩ := ht.2.2.2 (by omega)
            have et := ccells_cell hcB (fun o => zA.cell (p := ⟨bB, o, none⟩) hbB) i (by omega)
            have tk := (List.take_succ_eq_append_getElem (l := ts) (i := i) (by omega))
            have lBi : (i : Int) < (m : Int) := by omega
            have dB : decide ((i : Int) < (m : Int)) = true := by simp; omega
            generalize ts[i]'(by omega) = f at *
            obtain ⟨dn', dt', dz', dl'⟩ := f
            simp only at et
            have hS := Lib.hid (fun W => lshort_any ⟨dn', dt', dz', dl'⟩ W)
            by_cases sB : dn'.length ≤ 40
            · have hd : decide ((dn'.length : Int) ≤ 40) = true := by simp; omega
              have qB : ∀ f ∈ ts.take (i + 1), f.n.length ≤ 40 := by
                rw [tk]
                intro f hf
                rcases List.mem_append.1 hf with hf | hf
                · exact pB f hf
                · rw [List.mem_singleton.1 hf]; exact sB
              replace qB := Lib.hid qB
              dsimp only [Cl.val] at hS
              rw [hd] at hS
              clear hd sB tk hcB
              go_wp2_with fail
              refine (hS.out _).mono ?_
              rintro e wB ⟨rfl, gB⟩
              have zB := gr zA gB
              clear gB hS et
              by_cases lC : i < k
              · obtain ⟨bC, oC, rfl, hbC, hcC⟩ := hx.2.2.2 (by omega)
                have ex := vcells_cell hcC (fun o => zB.cell (p := ⟨bC, o, none⟩) hbC) i (by omega)
                have tk := (List.take_succ_eq_append_getElem (l := vs) (i := i) (by omega))
                have lCi : (i : Int) < (k : Int) := by omega
                have dC : decide ((i : Int) < (k : Int)) = true := by simp; omega
                generalize vs[i]'(by omega) = x at *
                obtain ⟨xk, xi, xu, xs⟩ := x
                simp only at ex
                clear hcC
                by_cases sC : xs.length ≤ 300
                · have hd : decide (300 < (xs.length : Int)) = false := by simp; omega
                  have qC : ∀ x ∈ vs.take (i + 1), x.s.length ≤ 300 := by
                    rw [tk]
                    intro x hx
                    rcases List.mem_append.1 hx with hx | hx
                    · exact pC x hx
                    · rw [List.mem_singleton.1 hx]; exact sC
                  replace qC := Lib.hid qC
                  clear sC tk
                  go_wp2
                  exact ⟨⟨i + 1, by simp, by omega, zB, qA.out, qB.out, qC.out⟩, by simp [intOf]; omega⟩
                · have hd : decide (300 < (xs.length : Int)) = true := by simp; omega
                  clear sC tk
                  go_wp2_with fail
                  refine (hW.out _ (hE.below zB)).mono ?_
                  rintro e w9 ⟨rfl, g9⟩
                  have hfin := gr zB g9
                  clear hW g9
                  go_wp2
                  go_ret
                  exact ⟨rfl, hfin⟩
              · have dC : decide ((i : Int) < (k : Int)) = false := by simp; omega
                have qC : ∀ f ∈ vs.take (i + 1), f.s.length ≤ 300 := by
                  rw [List.take_of_length_le (by omega)]
                  rw [List.take_of_length_le (by omega)] at pC
                  exact pC
                replace qC := Lib.hid qC
                go_wp2
                exact ⟨⟨i + 1, by simp, by omega, zB, qA.out, qB.out, qC.out⟩, by simp [intOf]; omega⟩
            · have hd : decide ((dn'.length : Int) ≤ 40) = false := by simp; omega
              dsimp only [Cl.val] at hS
              rw [hd] at hS
              clear hd tk hcB
              go_wp2_with fail
              refine (hS.out _).mono ?_
              rintro e wB ⟨rfl, gB⟩
              have zB := gr zA gB
              clear gB hS et
              go_wp2_with fail
              refine (hW.out _ (hE.below zB)).mono ?_
              rintro e w9 ⟨rfl, g9⟩
              have hfin := gr zB g9
              clear hW g9
              go_wp2
              go_ret
              exact ⟨rfl, hfin⟩
          · have dB : decide ((i : Int) < (m : Int)) = false := by simp; omega
            have qB : ∀ f ∈ ts.take (i + 1), f.n.length ≤ 40 := by
              rw [List.take_of_length_le (by omega)]
              rw [List.take_of_length_le (by omega)] at pB
              exact pB
            replace qB := Lib.hid qB
            by_cases lC : i < k
            · obtain ⟨bC, oC, rfl, hbC, hcC⟩ := hx.2.2.2 (by omega)
              have ex := vcells_cell hcC (fun o => zA.cell (p := ⟨bC, o, none⟩) hbC) i (by omega)
              have tk := (List.take_succ_eq_append_getElem (l := vs) (i := i) (by omega))
              have lCi : (i : Int) < (k : Int) := by omega
              have dC : decide ((i : Int) < (k : Int)) = true := by simp; omega
              generalize vs[i]'(by omega) = x at *
              obtain ⟨xk, xi, xu, xs⟩ := x
              simp only at ex
              clear hcC
              by_cases sC : xs.length ≤ 300
              · have hd : decide (300 < (xs.length : Int)) = false := by simp; omega
                have qC : ∀ x ∈ vs.take (i + 1), x.s.length ≤ 300 := by
                  rw [tk]
                  intro x hx
                  rcases List.mem_append.1 hx with hx | hx
                  · exact pC x hx
                  · rw [List.mem_singleton.1 hx]; exact sC
                replace qC := Lib.hid qC
                clear sC tk
                go_wp2
                exact ⟨⟨i + 1, by simp, by omega, zA, qA.out, qB.out, qC.out⟩, by simp [intOf]; omega⟩
              · have hd : decide (300 < (xs.length : Int)) = true := by simp; omega
                clear sC tk
                go_wp2_with fail
                refine (hW.out _ (hE.below zA)).mono ?_
                rintro e w9 ⟨rfl, g9⟩
                have hfin := gr zA g9
                clear hW g9
                go_wp2
                go_ret
                exact ⟨rfl, hfin⟩
            · have dC : decide ((i : Int) < (k : Int)) = false := by simp; omega
              have qC : ∀ f ∈ vs.take (i + 1), f.s.length ≤ 300 := by
                rw [List.take_of_length_le (by omega)]
                rw [List.take_of_length_le (by omega)] at pC
                exact pC
              replace qC := Lib.hid qC
              go_wp2
              exact ⟨⟨i + 1, by simp, by omega, zA, qA.out, qB.out, qC.out⟩, by simp [intOf]; omega⟩
        · have hd : decide ((cn'.length : Int) ≤ 40) = false := by simp; omega
          dsimp only [Cl.val] at hS
          rw [hd] at hS
          clear hd tk hcA
          go_wp2_with fail
          refine (hS.out _).mono ?_
          rintro e wA ⟨rfl, gA⟩
          have zA := gr hbw gA
          clear gA hS ef
          go_wp2_with fail
          refine (hW.out _ (hE.below zA)).mono ?_
          rintro e w9 ⟨rfl, g9⟩
          have hfin := gr zA g9
          clear hW g9
          go_wp2
          go_ret
          exact ⟨rfl, hfin⟩
      · have dA : decide ((i : Int) < (n : Int)) = false := by simp; omega
        have qA : ∀ f ∈ fs.take (i + 1), f.n.length ≤ 40 := by
          rw [List.take_of_length_le (by omega)]
          rw [List.take_of_length_le (by omega)] at pA
          exact pA
        replace qA := Lib.hid qA
        by_cases lB : i < m
        · obtain ⟨bB, oB, rfl, hbB, hcB⟩ := ht.2.2.2 (by omega)
          have et := ccells_cell hcB (fun o => hbw.cell (p := ⟨bB, o, none⟩) hbB) i (by omega)
          have tk := (List.take_succ_eq_append_getElem (l := ts) (i := i) (by omega))
          have lBi : (i : Int) < (m : Int) := by omega
          have dB : decide ((i : Int) < (m : Int)) = true := by simp; omega
          generalize ts[i]'(by omega) = f at *
          obtain ⟨dn', dt', dz', dl'⟩ := f
          simp only at et
          have hS := Lib.hid (fun W => lshort_any ⟨dn', dt', dz', dl'⟩ W)
          by_cases sB : dn'.length ≤ 40
          · have hd : decide ((dn'.length : Int) ≤ 40) = true := by simp; omega
            have qB : ∀ f ∈ ts.take (i + 1), f.n.length ≤ 40 := by
              rw [tk]
              intro f hf
              rcases List.mem_append.1 hf with hf | hf
              · exact pB f hf
              · rw [List.mem_singleton.1 hf]; exact sB
            replace qB := Lib.hid qB
            dsimp only [Cl.val] at hS
            rw [hd] at hS
            clear hd sB tk hcB
            go_wp2_with fail
            refine (hS.out _).mono ?_
            rintro e wB ⟨rfl, gB⟩
            have zB := gr hbw gB
            clear gB hS et
            by_cases lC : i < k
            · obtain ⟨bC, oC, rfl, hbC, hcC⟩ := hx.2.2.2 (by omega)
              have ex := vcells_cell hcC (fun o => zB.cell (p := ⟨bC, o, none⟩) hbC) i (by omega)
              have tk := (List.take_succ_eq_append_getElem (l := vs) (i := i) (by omega))
              have lCi : (i : Int) < (k : Int) := by omega
              have dC : decide ((i : Int) < (k : Int)) = true := by simp; omega
              generalize vs[i]'(by omega) = x at *
              obtain ⟨xk, xi, xu, xs⟩ := x
              simp only at ex
              clear hcC
              by_cases sC : xs.length ≤ 300
              · have hd : decide (300 < (xs.length : Int)) = false := by simp; omega
                have qC : ∀ x ∈ vs.take (i + 1), x.s.length ≤ 300 := by
                  rw [tk]
                  intro x hx
                  rcases List.mem_append.1 hx with hx | hx
                  · exact pC x hx
                  · rw [List.mem_singleton.1 hx]; exact sC
                replace qC := Lib.hid qC
                clear sC tk
                go_wp2
                exact ⟨⟨i + 1, by simp, by omega, zB, qA.out, qB.out, qC.out⟩, by simp [intOf]; omega⟩
              · have hd : decide (300 < (xs.length : Int)) = true := by simp; omega
                clear sC tk
                go_wp2_with fail
                refine (hW.out _ (hE.below zB)).mono ?_
                rintro e w9 ⟨rfl, g9⟩
                have hfin := gr zB g9
                clear hW g9
                go_wp2
                go_ret
                exact ⟨rfl, hfin⟩
            · have dC : decide ((i : Int) < (k : Int)) = false := by simp; omega
              have qC : ∀ f ∈ vs.take (i + 1), f.s.length ≤ 300 := by
                rw [List.take_of_length_le (by omega)]
                rw [List.take_of_length_le (by omega)] at pC
                exact pC
              replace qC := Lib.hid qC
              go_wp2
              exact ⟨⟨i + 1, by simp, by omega, zB, qA.out, qB.out, qC.out⟩, by simp [intOf]; omega⟩
          · have hd : decide ((dn'.length : Int) ≤ 40) = false := by simp; omega
            dsimp only [Cl.val] at hS
            rw [hd] at hS
            clear hd tk hcB
            go_wp2_with fail
            refine (hS.out _).mono ?_
            rintro e wB ⟨rfl, gB⟩
            have zB := gr hbw gB
            clear gB hS et
            go_wp2_with fail
            refine (hW.out _ (hE.below zB)).mono ?_
            rintro e w9 ⟨rfl, g9⟩
            have hfin := gr zB g9
            clear hW g9
            go_wp2
            go_ret
            exact ⟨rfl, hfin⟩
        · have dB : decide ((i : Int) < (m : Int)) = false := by simp; omega
          have qB : ∀ f ∈ ts.take (i + 1), f.n.length ≤ 40 := by
            rw [List.take_of_length_le (by omega)]
            rw [List.take_of_length_le (by omega)] at pB
            exact pB
          replace qB := Lib.hid qB
          by_cases lC : i < k
          · obtain ⟨bC, oC, rfl, hbC, hcC⟩ := hx.2.2.2 (by omega)
            have ex := vcells_cell hcC (fun o => hbw.cell (p := ⟨bC, o, none⟩) hbC) i (by omega)
            have tk := (List.take_succ_eq_append_getElem (l := vs) (i := i) (by omega))
            have lCi : (i : Int) < (k : Int) := by omega
            have dC : decide ((i : Int) < (k : Int)) = true := by simp; omega
            generalize vs[i]'(by omega) = x at *
            obtain ⟨xk, xi, xu, xs⟩ := x
            simp only at ex
            clear hcC
            by_cases sC : xs.length ≤ 300
            · have hd : decide (300 < (xs.length : Int)) = false := by simp; omega
              have qC : ∀ x ∈ vs.take (i + 1), x.s.length ≤ 300 := by
                rw [tk]
                intro x hx
                rcases List.mem_append.1 hx with hx | hx
                · exact pC x hx
                · rw [List.mem_singleton.1 hx]; exact sC
              replace qC := Lib.hid qC
              clear sC tk
              go_wp2
              exact ⟨⟨i + 1, by simp, by omega, hbw, qA.out, qB.out, qC.out⟩, by simp [intOf]; omega⟩
            · have hd : decide (300 < (xs.length : Int)) = true := by simp; omega
              clear sC tk
              go_wp2_with fail
              refine (hW.out _ (hE.below hbw)).mono ?_
              rintro e w9 ⟨rfl, g9⟩
              have hfin := gr hbw g9
              clear hW g9
              go_wp2
              go_ret
              exact ⟨rfl, hfin⟩
          · have dC : decide ((i : Int) < (k : Int)) = false := by simp; omega
            have qC : ∀ f ∈ vs.take (i + 1), f.s.length ≤ 300 := by
              rw [List.take_of_length_le (by omega)]
              rw [List.take_of_length_le (by omega)] at pC
              exact pC
            replace qC := Lib.hid qC
            go_wp2
            exact ⟨⟨i + 1, by simp, by omega, hbw, qA.out, qB.out, qC.out⟩, by simp [intOf]; omega⟩
    · obtain rfl : i = 10 := by omega
      rw [List.take_of_length_le (by omega)] at pA pB pC
      have hE1 := hE.below hbw
      have hP := crow_any A n c fs B m d0 ts C k e0 vs wr hE1 (hf.below hbw) (ht.below hbw) (hx.below hbw) hwf pA pB pC k10
      have hQ := fun W (hb : Below wr.heap.size wr W) => rrow_any A n c fs B m d0 ts C k e0 vs W (hE1.below hb) ((hf.below hbw).below hb) ((ht.below hbw).below hb) ((hx.below hbw).below hb) hwf pA pB pC k10
      unfold RowP at hP hQ
      generalize (crowV fs ts vs).1 = l at *
      generalize (crowV fs ts vs).2 = no at *
      have hSm := Lib.hid (fun A1 n1 c1 A2 n2 c2 W h1 h2 => Same_any A1 n1 c1 l A2 n2 c2 l W h1 h2)
      rw [listsV_refl] at hSm
      replace hP := Lib.hid hP
      replace hQ := Lib.hid hQ
      clear hf ht hx hwf pA pB pC
      go_wp2_with fail
      refine hP.out.mono ?_
      rintro e w2 ⟨A1, n1, c1, rfl, hO1, g1⟩
      clear hP
      go_wp2_with fail
      refine (hQ.out _ g1).mono ?_
      rintro e w3 ⟨A2, n2, c2, rfl, hO2, g2⟩
      clear hQ
      have hR1 := Ov.rv (hO1.below g2)
      have hR2 := Ov.rv hO2
      have hb3 := gr (gr hbw g1) g2
      clear hO1 hO2 g1 g2
      go_wp2_with fail
      refine (hSm.out _ _ _ _ _ _ _ hR1 hR2).mono ?_
      rintro e w4 ⟨rfl, g3⟩
      have hb4 := gr hb3 g3
      clear hSm g3 hR1 hR2 hb3
      go_wp2_with (go_at_call 12; refine (lnum_any _ _).mono ?_; rintro e w' ⟨rfl, rfl⟩)
      refine (hW.out _ (hE.below hb4)).mono ?_
      rintro e w9 ⟨rfl, g9⟩
      have hfin := gr hb4 g9
      clear hW g9
      go_wp2
      go_ret
      exact ⟨rfl, hfin⟩
end Go.Proofs.YtagoooclfcbdeaaGreatDoor
