/- Law 06: rows that are converted: convert.Row and the answer's. -/
import Derived.Test.YtagoooclfcbdeaaGreatDoorCvS
import Derived.Test.YtagoooclfcbdeaaGreatDoorRefV
import Derived.Test.YtagoooclfcbdeaaGreatDoorOpenC
namespace Go.Proofs.YtagoooclfcbdeaaGreatDoor
open Go.RowKit
set_option linter.unusedVariables false

theorem ccells_cell {w W : World} {b off : Nat} {xs : List Cl} (hcell : ∀ j u, (ccells xs)[j]? = some u → w.cell? ⟨b, off + j, none⟩ = some u) (hW : ∀ o, W.cell? ⟨b, o, none⟩ = w.cell? ⟨b, o, none⟩) (i : Nat) (h : i < xs.length) :
    W.cell? ⟨b, off + i * 4, none⟩ = some (.string (strL xs[i].n)) ∧ W.cell? ⟨b, off + i * 4 + 1, none⟩ = some (.int .i64 xs[i].t) ∧ W.cell? ⟨b, off + i * 4 + 2, none⟩ = some (.int .i64 xs[i].z) ∧ W.cell? ⟨b, off + i * 4 + 3, none⟩ = some (.bool xs[i].nl) := by
  have hca : ∀ j v, j < 4 → (xs[i].cells)[j]? = some v → W.cell? ⟨b, off + (4 * i + j), none⟩ = some v := fun j v hj hv => (hW _).trans (hcell (4 * i + j) v ((ccells_at xs i h j hj).trans hv))
  have c0 := hca 0 _ (by omega) rfl
  have c1 := hca 1 _ (by omega) rfl
  have c2 := hca 2 _ (by omega) rfl
  have c3 := hca 3 _ (by omega) rfl
  rw [Nat.add_zero] at c0
  simp only [← Nat.add_assoc, Nat.mul_comm 4 i] at c0 c1 c2 c3
  exact ⟨c0, c1, c2, c3⟩
theorem keep4 {w w' : World} (hb : Below w.heap.size w w') {a0 a1 a2 a3 : Addr} {v0 v1 v2 v3 : Value} (h : w.cell? a0 = some v0 ∧ w.cell? a1 = some v1 ∧ w.cell? a2 = some v2 ∧ w.cell? a3 = some v3) : w'.cell? a0 = some v0 ∧ w'.cell? a1 = some v1 ∧ w'.cell? a2 = some v2 ∧ w'.cell? a3 = some v3 := by
  have k : ∀ a v, w.cell? a = some v → w'.cell? a = some v := fun a v e => (hb.cell (World.block_lt_of_cell? _ _ e)).trans e
  exact ⟨k _ _ h.1, k _ _ h.2.1, k _ _ h.2.2.1, k _ _ h.2.2.2⟩
theorem lit_rv (w : World) (e : TypeId) (xs : List Vl) (h : xs.length ≤ maxLen) : Rv (w.alloc (.cells (vcells xs).toArray e)) 4 (some ⟨w.heap.size, 0, none⟩) xs.length xs.length (vcells xs) :=
  ⟨vcells_length xs, Nat.le_refl _, h, fun _ => ⟨w.heap.size, 0, rfl, by simp, fun j u hu => by
    have h := World.alloc_heap_new w (.cells (vcells xs).toArray e)
    simp only [World.cell?, h, Nat.zero_add]
    simpa using hu⟩⟩
theorem vcells_ones (xs : List Vl) : ∀ u ∈ vcells xs, u.oneCell' = true := by
  intro u hu
  obtain ⟨x, _, hx⟩ := List.mem_flatMap.1 hu
  simp [Vl.cells] at hx
  rcases hx with rfl | rfl | rfl | rfl <;> rfl
theorem info_VV : (Tryz.prog.info? 28).map (fun i => (i.zero, i.size, i.bytes)) = some (some (.agg #[.int .i64 0, .int .i64 0, .int .u64 0, .string ByteArray.empty]), 4, 40) := by kernel_rfl
theorem wpList_append_V {w : World} {ops : Array Oper} {rest : List Oper} {o : Oper} {a : Act} {Q : Exit → Act → World → Prop} (hgd : o.guard = none) (s x : Operand)
    (ho : o.op = .call { callee := .builtin .append, args := #[s, x], argTypes := #[48, 48] })
    (base : Nat) (A : Option Addr) (n c : Nat) (xs : List Vl) (hs : a.eval s = .slice A n c) (hown : Ov w base 28 4 A n c (vcells xs))
    (B : Option Addr) (m d : Nat) (ys : List Vl) (hx : a.eval x = .slice B m d) (hr : Rv w 4 B m d (vcells ys)) (hlen : n + m ≤ 100000) (hbase : base ≤ w.heap.size)
    (h : ∀ A' c' w', Ov w' base 28 4 A' (n + m) c' (vcells (xs ++ ys)) → w.grownBy w' (ab A) → (ab A' = ab A ∨ ab A' = some w.heap.size) → wpList Tryz.prog ops Q rest (a.put o.dst (.slice A' (n + m) c')) w') :
    wpList Tryz.prog ops Q (o :: rest) a w := by
  obtain ⟨i, hi1, hi2, hi3, hi4⟩ := info_parts info_VV
  refine wpList_append_v w hgd s x 48 ho 28 i _ 4 40 Tryz.underlying48 hi1 hi2 hi3 hi4 rfl (by decide) base A n c (vcells xs) hs hown B m d (vcells ys) hx hr (vcells_ones ys) (by unfold maxLen; omega) (by omega) hbase ?_
  intro A' c' w' h2 h3 h4
  refine h A' c' w' ?_ h3 h4
  rw [show vcells (xs ++ ys) = vcells xs ++ vcells ys from by simp [vcells]]
  exact h2
/-- A row's answers, one by one. -/
def convs (fs ts : List Cl) (vs : List Vl) : List (Vl × Nat) := List.zipWith (fun p x => convV p.1 p.2 x) (List.zip fs ts) vs
/-- A row, or the first error's number. -/
def rowY (rs : List (Vl × Nat)) : List Vl × Nat := match rs.find? (fun y => y.2 ≠ 0) with
  | some y => ([], y.2)
  | none => (rs.map (·.1), 0)
/-- What Row tells. -/
def crowV (fs ts : List Cl) (vs : List Vl) : List Vl × Nat := if fs.length ≠ ts.length ∨ vs.length ≠ fs.length then ([], 130) else rowY (convs fs ts vs)
theorem rowY_bad {rs : List (Vl × Nat)} {k : Nat} (hk : k < rs.length) (h0 : ∀ y ∈ rs.take k, y.2 = 0) (hb : rs[k].2 ≠ 0) : rowY rs = ([], rs[k].2) := by
  have : rs.find? (fun y => y.2 ≠ 0) = some rs[k] := by
    rw [List.find?_eq_some_iff_getElem]
    refine ⟨by simpa using hb, k, hk, rfl, fun j hj => ?_⟩
    have := h0 rs[j] (by rw [List.mem_take_iff_getElem]; exact ⟨j, by omega, rfl⟩)
    simpa using this
  unfold rowY
  rw [this]
theorem rowY_ok {rs : List (Vl × Nat)} (h0 : ∀ y ∈ rs, y.2 = 0) : rowY rs = (rs.map (·.1), 0) := by
  have : rs.find? (fun y => y.2 ≠ 0) = none := by
    rw [List.find?_eq_none]
    intro y hy
    simpa using h0 y hy
  unfold rowY
  rw [this]
def RowP (w : World) (fs ts : List Cl) (vs : List Vl) (e : Ending) (w' : World) : Prop :=
  ∃ A n c, e = .returned (.tuple #[.slice A n c, .int .i64 ((crowV fs ts vs).2 : Int)]) ∧ Ov w' w.heap.size 28 4 A n c (vcells (crowV fs ts vs).1) ∧ Below w.heap.size w w'
set_option maxRecDepth 100000 in
set_option maxHeartbeats 8000000 in
theorem crow_any (A : Option Addr) (n c : Nat) (fs : List Cl) (B : Option Addr) (m d0 : Nat) (ts : List Cl) (C : Option Addr) (k e0 : Nat) (vs : List Vl) (w : World) (hE : Env w) (hf : Rv w 4 A n c (ccells fs)) (ht : Rv w 4 B m d0 (ccells ts)) (hx : Rv w 4 C k e0 (vcells vs))
    (hwf : ∀ x ∈ vs, x.Wf) (hl : ∀ f ∈ fs, f.n.length ≤ 40) (hl2 : ∀ f ∈ ts, f.n.length ≤ 40) (hs : ∀ x ∈ vs, x.s.length ≤ 300) (hk10 : k ≤ 10) :
    Calls Tryz.prog 18 #[.slice A n c, .slice B m d0, .slice C k e0] w (RowP w fs ts vs) := by
  have hfn : fs.length = n := by have := hf.1; rw [ccells_length] at this; omega
  have htn : ts.length = m := by have := ht.1; rw [ccells_length] at this; omega
  have hxn : vs.length = k := by have := hx.1; rw [vcells_length] at this; omega
  by_cases hnm : n = m
  · by_cases hkn : k = n
    · subst hnm
      subst hkn
      have hV : crowV fs ts vs = rowY (convs fs ts vs) := by unfold crowV; rw [if_neg (by omega)]
      unfold RowP
      rw [hV]
      clear hV
      obtain ⟨rs, hrs, hlen, hget⟩ : ∃ rs, convs fs ts vs = rs ∧ rs.length = k ∧ ∀ i (h : i < k) (h' : i < rs.length), rs[i] = convV (fs[i]'(by omega)) (ts[i]'(by omega)) (vs[i]'(by omega)) :=
        ⟨_, rfl, by unfold convs; simp; omega, fun i h h' => by simp only [convs, List.getElem_zipWith, List.getElem_zip]⟩
      rw [hrs]
      clear hrs
      have hc1 := hf.2.2.1
      have hc2 := ht.2.2.1
      have hc3 := hx.2.2.1
      go_enter Tryz.func18, Tryz.ntmps18
      go_wp2
      go_loopw [8, 27] (fun o p wr => ∃ (i : Nat) (Bo : Option Addr) (d : Nat), o = .slice Bo i d ∧ p = .int .i64 (i : Int) ∧ i ≤ k ∧ (∀ y ∈ rs.take i, y.2 = 0) ∧ Ov wr w.heap.size 28 4 Bo i d (vcells ((rs.take i).map (·.1))) ∧ Below w.heap.size w wr)
        (fun _ p wr => k - (intOf p).toNat)
      case atStart => exact ⟨0, none, 0, rfl, rfl, by omega, by simp, Ov.nil _ _ _ _, Below.refl _ _⟩
      case round =>
        obtain ⟨i, Bo, d, rfl, rfl, hi, h0, hO, hbw⟩ := hrel
        by_cases hlt : i < k
        · skip
          obtain ⟨b1, o1, rfl, hb1, hc1'⟩ := hf.2.2.2 (by omega)
          obtain ⟨b2, o2, rfl, hb2, hc2'⟩ := ht.2.2.2 (by omega)
          obtain ⟨b3, o3, rfl, hb3, hc3'⟩ := hx.2.2.2 (by omega)
          have ef := ccells_cell hc1' (fun o => hbw.cell (p := ⟨b1, o, none⟩) hb1) i (by omega)
          have et := ccells_cell hc2' (fun o => hbw.cell (p := ⟨b2, o, none⟩) hb2) i (by omega)
          have ex := vcells_cell hc3' (fun o => hbw.cell (p := ⟨b3, o, none⟩) hb3) i (by omega)
          have hgi := hget i hlt (by omega)
          have hbad := rowY_bad (rs := rs) (k := i) (by omega) h0
          have htk : rs.take (i + 1) = rs.take i ++ [rs[i]'(by omega)] := List.take_succ_eq_append_getElem (by omega)
          have w1 := hwf (vs[i]'(by omega)) (List.getElem_mem _)
          have w2 := hl (fs[i]'(by omega)) (List.getElem_mem _)
          have w3 := hl2 (ts[i]'(by omega)) (List.getElem_mem _)
          have w4 := hs (vs[i]'(by omega)) (List.getElem_mem _)
          have hcv := fun W (h : Env W) => convert_any (fs[i]'(by omega)) (ts[i]'(by omega)) (vs[i]'(by omega)) W h (by omega) (by omega) w1
          skip
          rw [← hgi] at hcv
          generalize rs[i]'(by omega) = y at *
          generalize fs[i]'(by omega) = cf at *
          generalize ts[i]'(by omega) = ct at *
          generalize vs[i]'(by omega) = x at *
          obtain ⟨⟨yk, yi, yu, ys⟩, no⟩ := y
          obtain ⟨cn, ct', cz, cl⟩ := cf
          obtain ⟨dn, dt, dz, dl⟩ := ct
          obtain ⟨xk, xi, xu, xs⟩ := x
          simp only [Cl.val, Vl.val, valV] at hcv ef et ex
          replace hcv := Lib.hid hcv
          replace hbad := Lib.hid hbad
          replace htk := Lib.hid htk
          clear hgi hget w1 w2 w3 w4 hc1' hc2' hc3' hwf hl hl2 hs
          have l3 : (i : Int) < (k : Int) := by omega
          have hq : decide ((i : Int) < (k : Int)) = true := by simp; omega
          have hba : Below wr.heap.size wr (wr.alloc (.cells #[.int .i64 xk, .int .i64 xi, .int .u64 xu, .string (strL xs)] 28)) := (Below.refl _ wr).alloc (Nat.le_refl _) _
          have hbw1 := gr hbw hba
          have hEw := hE.below hbw1
          have hO1 := hO.below hba
          have ex0 := ex
          replace ef := keep4 hba ef
          replace et := keep4 hba et
          have ex := (VBox.new wr xk xi xu (strL xs)).cells
          go_upto_region 7 with fail
          obtain ⟨wr1, hwr1⟩ : ∃ wr1, wr.alloc (.cells #[.int .i64 xk, .int .i64 xi, .int .u64 xu, .string (strL xs)] 28) = wr1 := ⟨_, rfl⟩
          rw [hwr1] at hbw1 hO1 hEw ef et ex ⊢
          go_cut [11, 12] from 32 to 44 (fun s11 s12 wx => ∃ Bx : Nat, s11 = .pointer (some ⟨Bx, 0, none⟩) ∧ s12 = .int .i64 (no : Int) ∧ VBox wx Bx yk yi yu (strL ys) ∧ Below wr1.heap.size wr1 wx)
          case first =>
            refine wp_region_noPanic ?_
            refine wp_region_held_drew (S := fun w' => (w'.cell? ⟨b1, o1 + i * 4, none⟩ = some (.string (strL cn)) ∧ w'.cell? ⟨b1, o1 + i * 4 + 1, none⟩ = some (.int .i64 ct') ∧ w'.cell? ⟨b1, o1 + i * 4 + 2, none⟩ = some (.int .i64 cz) ∧ w'.cell? ⟨b1, o1 + i * 4 + 3, none⟩ = some (.bool cl)) ∧ (w'.cell? ⟨b2, o2 + i * 4, none⟩ = some (.string (strL dn)) ∧ w'.cell? ⟨b2, o2 + i * 4 + 1, none⟩ = some (.int .i64 dt) ∧ w'.cell? ⟨b2, o2 + i * 4 + 2, none⟩ = some (.int .i64 dz) ∧ w'.cell? ⟨b2, o2 + i * 4 + 3, none⟩ = some (.bool dl)) ∧ w'.cell? ⟨wr.heap.size, 0, none⟩ = some (.int .i64 xk) ∧ w'.cell? ⟨wr.heap.size, 1, none⟩ = some (.int .i64 xi) ∧ w'.cell? ⟨wr.heap.size, 2, none⟩ = some (.int .u64 xu) ∧ w'.cell? ⟨wr.heap.size, 3, none⟩ = some (.string (strL xs))) (by kernel_rfl) ⟨ef, et, ex⟩ (fun hHeld => ?_)
            refine wpAnyH_takeL (i := 0) (v := ?vhy1) rfl (by kernel_rfl) (by kernel_rfl) (by kernel_rfl) (fun _ _ _ h => h) (Or.inl ⟨by rfl, ?hy1⟩) (by assumption) ?rhy1
            case hy1 => ((intro w hSw; (try dsimp only at hSw); go_simp); try with_reducible rfl)
            try simp only [Act.put, List.setIfInBounds_toArray, List.set_cons_zero, List.set_cons_succ]
            refine wpAnyH_takeL (i := 1) (v := ?vhy2) rfl (by kernel_rfl) (by kernel_rfl) (by kernel_rfl) (fun _ _ _ h => h) (Or.inl ⟨by rfl, ?hy2⟩) (by assumption) ?rhy2
            case hy2 => ((intro w hSw; (try dsimp only at hSw); go_simp); try with_reducible rfl)
            try simp only [Act.put, List.setIfInBounds_toArray, List.set_cons_zero, List.set_cons_succ]
            refine wpAnyH_takeL (i := 2) (v := ?vhy3) rfl (by kernel_rfl) (by kernel_rfl) (by kernel_rfl) (fun _ _ _ h => h) (Or.inl ⟨by rfl, ?hy3⟩) (by assumption) ?rhy3
            case hy3 => ((intro w hSw; (try dsimp only at hSw); go_simp); try with_reducible rfl)
            try simp only [Act.put, List.setIfInBounds_toArray, List.set_cons_zero, List.set_cons_succ]
            refine wpAnyH_takeL (i := 3) (v := ?vhy4) rfl (by kernel_rfl) (by kernel_rfl) (by kernel_rfl) (fun _ _ _ h => h) (Or.inl ⟨by rfl, ?hy4⟩) (by assumption) ?rhy4
            case hy4 => ((intro w hSw; (try dsimp only at hSw); go_simp); try with_reducible rfl)
            try simp only [Act.put, List.setIfInBounds_toArray, List.set_cons_zero, List.set_cons_succ]
            refine wpAnyH_takeL (i := 4) (v := ?vhy5) rfl (by kernel_rfl) (by kernel_rfl) (by kernel_rfl) (fun _ _ _ h => h) (Or.inl ⟨by rfl, ?hy5⟩) (by assumption) ?rhy5
            case hy5 => ((intro w hSw; (try dsimp only at hSw); go_simp); try with_reducible rfl)
            try simp only [Act.put, List.setIfInBounds_toArray, List.set_cons_zero, List.set_cons_succ]
            refine wpAnyH_takeL (i := 5) (v := ?vhy6) rfl (by kernel_rfl) (by kernel_rfl) (by kernel_rfl) (fun _ _ _ h => h) (Or.inl ⟨by rfl, ?hy6⟩) (by assumption) ?rhy6
            case hy6 => ((intro w hSw; (try dsimp only at hSw); go_simp); try with_reducible rfl)
            try simp only [Act.put, List.setIfInBounds_toArray, List.set_cons_zero, List.set_cons_succ]
            refine wpAnyH_takeL (i := 6) (v := ?vhy7) rfl (by kernel_rfl) (by kernel_rfl) (by kernel_rfl) (fun _ _ _ h => h) (Or.inl ⟨by rfl, ?hy7⟩) (by assumption) ?rhy7
            case hy7 => ((intro w hSw; (try dsimp only at hSw); go_simp); try with_reducible rfl)
            try simp only [Act.put, List.setIfInBounds_toArray, List.set_cons_zero, List.set_cons_succ]
            refine wpAnyH_takeL (i := 7) (v := ?vhy8) rfl (by kernel_rfl) (by kernel_rfl) (by kernel_rfl) (fun _ _ _ h => h) (Or.inl ⟨by rfl, ?hy8⟩) (by assumption) ?rhy8
            case hy8 => ((intro w hSw; (try dsimp only at hSw); go_simp); try with_reducible rfl)
            try simp only [Act.put, List.setIfInBounds_toArray, List.set_cons_zero, List.set_cons_succ]
            refine wpAnyH_takeL (i := 8) (v := ?vhy9) rfl (by kernel_rfl) (by kernel_rfl) (by kernel_rfl) (fun _ _ _ h => h) (Or.inl ⟨by rfl, ?hy9⟩) (by assumption) ?rhy9
            case hy9 => ((intro w hSw; (try dsimp only at hSw); go_simp); try with_reducible rfl)
            try simp only [Act.put, List.setIfInBounds_toArray, List.set_cons_zero, List.set_cons_succ]
            refine wpAnyH_ready (rs := [9, 13]) (by kernel_rfl) (by simp) ?_
            refine AllReadyH.consL (i := 9) rfl (fun K hK => ?_) (AllReadyH.consL (i := 13) rfl (fun K hK => ?_) AllReadyH.nil)
            · go_simp
              refine (hcv.out _ (hEw.below (Below.refl wr1.heap.size wr1).drew)).mono ?_
              rintro e w4 ⟨rfl, g4⟩
              have g4 : Below wr1.heap.size wr1 w4 := ⟨g4.os, g4.tape, g4.output, g4.size, g4.block⟩
              refine hK.out _ _ ⟨keep4 g4 ef, keep4 g4 et, keep4 g4 ex⟩ (fun hHeld2 => ?_)
              clear hK
              try simp only [Act.put, List.setIfInBounds_toArray, List.set_cons_zero, List.set_cons_succ]
              refine wpAnyH_takeL (i := 10) (v := ?vhy10) rfl (by kernel_rfl) (by kernel_rfl) (by kernel_rfl) (fun _ _ _ h => h) (Or.inl ⟨by rfl, ?hy10⟩) (by assumption) ?rhy10
              case hy10 => ((intro w hSw; (try dsimp only at hSw); go_simp); try with_reducible rfl)
              try simp only [Act.put, List.setIfInBounds_toArray, List.set_cons_zero, List.set_cons_succ]
              refine wpAnyH_takeL (i := 11) (v := ?vhy11) rfl (by kernel_rfl) (by kernel_rfl) (by kernel_rfl) (fun _ _ _ h => h) (Or.inl ⟨by rfl, ?hy11⟩) (by assumption) ?rhy11
              case hy11 => ((intro w hSw; (try dsimp only at hSw); go_simp); try with_reducible rfl)
              try simp only [Act.put, List.setIfInBounds_toArray, List.set_cons_zero, List.set_cons_succ]
              refine wpAnyH_takeL (i := 12) (v := ?vhy12) rfl (by kernel_rfl) (by kernel_rfl) (by kernel_rfl) (fun _ _ _ h => h) (Or.inl ⟨by rfl, ?hy12⟩) (by assumption) ?rhy12
              case hy12 => ((intro w hSw; (try dsimp only at hSw); go_simp); try with_reducible rfl)
              try simp only [Act.put, List.setIfInBounds_toArray, List.set_cons_zero, List.set_cons_succ]
              refine wpAnyH_ready (rs := [13]) (by kernel_rfl) (by simp) ?_
              refine AllReadyH.consL (i := 13) rfl (fun K hK => ?_) AllReadyH.nil
              go_simp
              have g5 := gr_alloc g4 (.cells #[.int .i64 0, .int .i64 0, .int .u64 0, .string { data := #[] }] 28)
              refine hK.out _ _ ⟨keep4 g5 ef, keep4 g5 et, keep4 g5 ex⟩ (fun hHeld3 => ?_)
              clear hK
              try simp only [Act.put, List.setIfInBounds_toArray, List.set_cons_zero, List.set_cons_succ]
              refine wpAnyH_ready (rs := [14]) (by kernel_rfl) (by simp) ?_
              refine AllReadyH.consL (i := 14) rfl (fun K hK => ?_) AllReadyH.nil
              go_simp
              have g6 := gr_alloc g4 (.cells #[.int .i64 yk, .int .i64 yi, .int .u64 yu, .string (strL ys)] 28)
              refine hK.out _ _ ⟨keep4 g6 ef, keep4 g6 et, keep4 g6 ex⟩ (fun hHeld4 => ?_)
              clear hK
              try simp only [Act.put, List.setIfInBounds_toArray, List.set_cons_zero, List.set_cons_succ]
              refine wpAnyH_takeL (i := 15) (v := ?vhy13) rfl (by kernel_rfl) (by kernel_rfl) (by kernel_rfl) (fun _ _ _ h => h) (Or.inl ⟨by rfl, ?hy13⟩) (by assumption) ?rhy13
              case hy13 => ((intro w hSw; (try dsimp only at hSw); go_simp); try with_reducible rfl)
              try simp only [Act.put, List.setIfInBounds_toArray, List.set_cons_zero, List.set_cons_succ]
              refine wpAnyH_done (by kernel_rfl) ?_ _
              refine NoPanic.normal ?_
              have hkb := VBox.new w4 yk yi yu (strL ys)
              clear hHeld hHeld2 hHeld3 hHeld4 hcv
              go_wp2_with fail
              go_meet
              exact ⟨_, rfl, rfl, hkb, g6⟩
            · go_simp
              have g3 : Below wr1.heap.size wr1 (wr1.alloc (.cells #[.int .i64 0, .int .i64 0, .int .u64 0, .string { data := #[] }] 28)).drew := ((Below.refl wr1.heap.size wr1).alloc (Nat.le_refl _) _).drew
              have hkn : VBox (wr1.alloc (.cells #[.int .i64 0, .int .i64 0, .int .u64 0, .string { data := #[] }] 28)).drew wr1.heap.size 0 0 0 { data := #[] } := VBox.new wr1 0 0 0 { data := #[] }
              have hln : wr1.heap.size < (wr1.alloc (.cells #[.int .i64 0, .int .i64 0, .int .u64 0, .string { data := #[] }] 28)).drew.heap.size := hkn.lt
              refine hK.out _ _ ⟨keep4 g3 ef, keep4 g3 et, keep4 g3 ex⟩ (fun hHeld2 => ?_)
              clear hK
              try simp only [Act.put, List.setIfInBounds_toArray, List.set_cons_zero, List.set_cons_succ]
              refine wpAnyH_ready (rs := [9]) (by kernel_rfl) (by simp) ?_
              refine AllReadyH.consL (i := 9) rfl (fun K hK => ?_) AllReadyH.nil
              go_simp
              refine (hcv.out _ (hEw.below g3)).mono ?_
              rintro e w4 ⟨rfl, g4⟩
              have hkn2 : VBox w4 wr1.heap.size 0 0 0 { data := #[] } := (g4.block _ hln).trans hkn
              have g5 := gr g3 g4
              refine hK.out _ _ ⟨keep4 g5 ef, keep4 g5 et, keep4 g5 ex⟩ (fun hHeld3 => ?_)
              clear hK hcv
              try simp only [Act.put, List.setIfInBounds_toArray, List.set_cons_zero, List.set_cons_succ]
              refine wpAnyH_takeL (i := 10) (v := ?vhy14) rfl (by kernel_rfl) (by kernel_rfl) (by kernel_rfl) (fun _ _ _ h => h) (Or.inl ⟨by rfl, ?hy14⟩) (by assumption) ?rhy14
              case hy14 => ((intro w hSw; (try dsimp only at hSw); go_simp); try with_reducible rfl)
              try simp only [Act.put, List.setIfInBounds_toArray, List.set_cons_zero, List.set_cons_succ]
              refine wpAnyH_takeL (i := 11) (v := ?vhy15) rfl (by kernel_rfl) (by kernel_rfl) (by kernel_rfl) (fun _ _ _ h => h) (Or.inl ⟨by rfl, ?hy15⟩) (by assumption) ?rhy15
              case hy15 => ((intro w hSw; (try dsimp only at hSw); go_simp); try with_reducible rfl)
              try simp only [Act.put, List.setIfInBounds_toArray, List.set_cons_zero, List.set_cons_succ]
              refine wpAnyH_takeL (i := 12) (v := ?vhy16) rfl (by kernel_rfl) (by kernel_rfl) (by kernel_rfl) (fun _ _ _ h => h) (Or.inl ⟨by rfl, ?hy16⟩) (by assumption) ?rhy16
              case hy16 => ((intro w hSw; (try dsimp only at hSw); go_simp); try with_reducible rfl)
              try simp only [Act.put, List.setIfInBounds_toArray, List.set_cons_zero, List.set_cons_succ]
              have hkc := hkn2.cells
              have hf0 := hkn2.frozen 0
              have hf1 := hkn2.frozen 1
              have hf2 := hkn2.frozen 2
              have hf3 := hkn2.frozen 3
              refine wpAnyH_ready (rs := [14]) (by kernel_rfl) (by simp) ?_
              refine AllReadyH.consL (i := 14) rfl (fun K hK => ?_) AllReadyH.nil
              go_simp
              have hkb := hkn2.put yk yi yu (strL ys)
              have g6 := below_put g5 (Nat.le_refl _) yk yi yu (strL ys)
              refine hK.out _ _ ⟨keep4 g6 ef, keep4 g6 et, keep4 g6 ex⟩ (fun hHeld4 => ?_)
              clear hK
              try simp only [Act.put, List.setIfInBounds_toArray, List.set_cons_zero, List.set_cons_succ]
              refine wpAnyH_takeL (i := 15) (v := ?vhy17) rfl (by kernel_rfl) (by kernel_rfl) (by kernel_rfl) (fun _ _ _ h => h) (Or.inl ⟨by rfl, ?hy17⟩) (by assumption) ?rhy17
              case hy17 => ((intro w hSw; (try dsimp only at hSw); go_simp); try with_reducible rfl)
              try simp only [Act.put, List.setIfInBounds_toArray, List.set_cons_zero, List.set_cons_succ]
              refine wpAnyH_done (by kernel_rfl) ?_ _
              refine NoPanic.normal ?_
              clear hHeld hHeld2 hHeld3 hHeld4 hkc hf0 hf1 hf2 hf3
              go_wp2_with fail
              go_meet
              exact ⟨_, rfl, rfl, hkb, g6⟩
          case rest =>
            obtain ⟨Bx, rfl, rfl, hbx, hgx⟩ := hcut
            have hb5 := gr hbw1 hgx
            have hO5 := hO1.below hgx
            clear hgx hcv ef et ex hO1 hbw1 hEw
            generalize wc = w5 at *
            have cy := hbx.cells
            by_cases hz : no = 0
            · subst hz
              have hta := htk.out
              have hlit : Rv (w5.alloc (.cells #[.int .i64 yk, .int .i64 yi, .int .u64 yu, .string (strL ys)] 28)) 4 (some ⟨w5.heap.size, 0, none⟩) 1 1 (vcells [⟨yk, yi, yu, ys⟩]) := lit_rv w5 28 [⟨yk, yi, yu, ys⟩] (show 1 ≤ maxLen by decide)
              have hbB : Below w5.heap.size w5 (w5.alloc (.cells #[.int .i64 yk, .int .i64 yi, .int .u64 yu, .string (strL ys)] 28)) := (Below.refl _ w5).alloc (Nat.le_refl _) _
              have hO6 := hO5.below hbB
              have hb6 := gr hb5 hbB
              have hml : ((rs.take i).map (·.1)).length = i := by simp; omega
              clear hbad
              go_wp2_with (at_builtin; refine wpList_append_V rfl _ _ rfl w.heap.size Bo i d ((rs.take i).map (·.1)) rfl hO6 _ 1 1 [⟨yk, yi, yu, ys⟩] rfl hlit (by omega) hb6.size ?_; intro A' c' w7 hO7 hg7 hab7)
              have hb7 : Below w.heap.size w w7 := hb6.grown hg7 hb6.size (fun q e => (Ov.ab hO6 q e).1)
              go_wp2
              refine ⟨⟨i + 1, A', c', rfl, by simp, by omega, ?_, ?_, hb7⟩, by simp [intOf]; omega⟩
              · rw [hta]
                intro y hy
                rcases List.mem_append.1 hy with hy | hy
                · exact h0 y hy
                · rw [List.mem_singleton.1 hy]
              · rw [hta, List.map_append]
                exact hO7
            · have hd : ((no : Int) != 0) = true := by simp; omega
              have hN := hbad.out hz
              replace hN := Lib.hid hN
              clear hbad hz hO5
              go_wp2
              go_ret2
              exact ⟨none, 0, 0, by rw [hN.out]; rfl, by rw [hN.out]; exact Ov.nil _ _ _ _, hb5⟩
        · obtain rfl : i = k := by omega
          have hN := rowY_ok (rs := rs) (by rw [List.take_of_length_le (by omega)] at h0; exact h0)
          rw [List.take_of_length_le (by omega)] at hO
          have hq : decide ((i : Int) < (i : Int)) = false := by simp
          replace hN := Lib.hid hN
          clear h0 hget
          go_wp2
          go_ret2
          exact ⟨Bo, i, d, by rw [hN.out]; rfl, by rw [hN.out]; exact hO, hbw⟩
    · have q1 : ((n : Int) != (m : Int)) = false := by simp; omega
      have q2 : ((k : Int) != (n : Int)) = true := by simp; omega
      have hV : crowV fs ts vs = ([], 130) := by unfold crowV; rw [if_pos (by omega)]
      unfold RowP
      rw [hV]
      clear hV hnm hkn
      go_enter Tryz.func18, Tryz.ntmps18
      go_wp2
      go_ret2
      exact ⟨none, 0, 0, rfl, Ov.nil _ _ _ _, Below.refl _ _⟩
  · have q1 : ((n : Int) != (m : Int)) = true := by simp; omega
    have hV : crowV fs ts vs = ([], 130) := by unfold crowV; rw [if_pos (by omega)]
    unfold RowP
    rw [hV]
    clear hV hnm
    go_enter Tryz.func18, Tryz.ntmps18
    go_wp2
    go_ret2
    exact ⟨none, 0, 0, rfl, Ov.nil _ _ _ _, Below.refl _ _⟩
set_option maxRecDepth 100000 in
set_option maxHeartbeats 8000000 in
theorem rrow_any (A : Option Addr) (n c : Nat) (fs : List Cl) (B : Option Addr) (m d0 : Nat) (ts : List Cl) (C : Option Addr) (k e0 : Nat) (vs : List Vl) (w : World) (hE : Env w) (hf : Rv w 4 A n c (ccells fs)) (ht : Rv w 4 B m d0 (ccells ts)) (hx : Rv w 4 C k e0 (vcells vs))
    (hwf : ∀ x ∈ vs, x.Wf) (hl : ∀ f ∈ fs, f.n.length ≤ 40) (hl2 : ∀ f ∈ ts, f.n.length ≤ 40) (hs : ∀ x ∈ vs, x.s.length ≤ 300) (hk10 : k ≤ 10) :
    Calls Tryz.prog 19 #[.slice A n c, .slice B m d0, .slice C k e0] w (RowP w fs ts vs) := by
  have hfn : fs.length = n := by have := hf.1; rw [ccells_length] at this; omega
  have htn : ts.length = m := by have := ht.1; rw [ccells_length] at this; omega
  have hxn : vs.length = k := by have := hx.1; rw [vcells_length] at this; omega
  by_cases hnm : n = m
  · by_cases hkn : k = n
    · subst hnm
      subst hkn
      have hV : crowV fs ts vs = rowY (convs fs ts vs) := by unfold crowV; rw [if_neg (by omega)]
      unfold RowP
      rw [hV]
      clear hV
      obtain ⟨rs, hrs, hlen, hget⟩ : ∃ rs, convs fs ts vs = rs ∧ rs.length = k ∧ ∀ i (h : i < k) (h' : i < rs.length), rs[i] = convV (fs[i]'(by omega)) (ts[i]'(by omega)) (vs[i]'(by omega)) :=
        ⟨_, rfl, by unfold convs; simp; omega, fun i h h' => by simp only [convs, List.getElem_zipWith, List.getElem_zip]⟩
      rw [hrs]
      clear hrs
      have hc1 := hf.2.2.1
      have hc2 := ht.2.2.1
      have hc3 := hx.2.2.1
      go_enter Tryz.func19, Tryz.ntmps19
      go_wp2
      go_loopw [8, 9] (fun o p wr => ∃ (i : Nat) (Bo : Option Addr) (d : Nat), o = .slice Bo i d ∧ p = .int .i64 (i : Int) ∧ i ≤ k ∧ (∀ y ∈ rs.take i, y.2 = 0) ∧ Ov wr w.heap.size 28 4 Bo i d (vcells ((rs.take i).map (·.1))) ∧ Below w.heap.size w wr)
        (fun _ p wr => k - (intOf p).toNat)
      case atStart => exact ⟨0, none, 0, rfl, rfl, by omega, by simp, Ov.nil _ _ _ _, Below.refl _ _⟩
      case round =>
        obtain ⟨i, Bo, d, rfl, rfl, hi, h0, hO, hbw⟩ := hrel
        by_cases hlt : i < k
        · skip
          obtain ⟨b1, o1, rfl, hb1, hc1'⟩ := hf.2.2.2 (by omega)
          obtain ⟨b2, o2, rfl, hb2, hc2'⟩ := ht.2.2.2 (by omega)
          obtain ⟨b3, o3, rfl, hb3, hc3'⟩ := hx.2.2.2 (by omega)
          have ef := ccells_cell hc1' (fun o => hbw.cell (p := ⟨b1, o, none⟩) hb1) i (by omega)
          have et := ccells_cell hc2' (fun o => hbw.cell (p := ⟨b2, o, none⟩) hb2) i (by omega)
          have ex := vcells_cell hc3' (fun o => hbw.cell (p := ⟨b3, o, none⟩) hb3) i (by omega)
          have hgi := hget i hlt (by omega)
          have hbad := rowY_bad (rs := rs) (k := i) (by omega) h0
          have htk : rs.take (i + 1) = rs.take i ++ [rs[i]'(by omega)] := List.take_succ_eq_append_getElem (by omega)
          have w1 := hwf (vs[i]'(by omega)) (List.getElem_mem _)
          have w2 := hl (fs[i]'(by omega)) (List.getElem_mem _)
          have w3 := hl2 (ts[i]'(by omega)) (List.getElem_mem _)
          have w4 := hs (vs[i]'(by omega)) (List.getElem_mem _)
          have hcv := fun W (h : Env W) => rconv_any (fs[i]'(by omega)) (ts[i]'(by omega)) (vs[i]'(by omega)) W h (by omega) (by omega) w1 (by omega)
          unfold ConvP at hcv
          rw [← hgi] at hcv
          generalize rs[i]'(by omega) = y at *
          generalize fs[i]'(by omega) = cf at *
          generalize ts[i]'(by omega) = ct at *
          generalize vs[i]'(by omega) = x at *
          obtain ⟨⟨yk, yi, yu, ys⟩, no⟩ := y
          obtain ⟨cn, ct', cz, cl⟩ := cf
          obtain ⟨dn, dt, dz, dl⟩ := ct
          obtain ⟨xk, xi, xu, xs⟩ := x
          simp only [Cl.val, Vl.val, valV] at hcv ef et ex
          replace hcv := Lib.hid hcv
          replace hbad := Lib.hid hbad
          replace htk := Lib.hid htk
          clear hgi hget w1 w2 w3 w4 hc1' hc2' hc3' hwf hl hl2 hs
          have l3 : (i : Int) < (k : Int) := by omega
          have hq : decide ((i : Int) < (k : Int)) = true := by simp; omega
          have hEw := hE.below hbw
          have hO1 := hO
          have hbw1 := hbw
          go_upto_region 7 with fail
          skip
          go_cut [10, 11] from 30 to 45 (fun s11 s12 wx => ∃ Bx : Nat, s11 = .pointer (some ⟨Bx, 0, none⟩) ∧ s12 = .int .i64 (no : Int) ∧ VBox wx Bx yk yi yu (strL ys) ∧ Below wr.heap.size wr wx)
          case first =>
            refine wp_region_noPanic ?_
            refine wp_region_held_drew (S := fun w' => (w'.cell? ⟨b1, o1 + i * 4, none⟩ = some (.string (strL cn)) ∧ w'.cell? ⟨b1, o1 + i * 4 + 1, none⟩ = some (.int .i64 ct') ∧ w'.cell? ⟨b1, o1 + i * 4 + 2, none⟩ = some (.int .i64 cz) ∧ w'.cell? ⟨b1, o1 + i * 4 + 3, none⟩ = some (.bool cl)) ∧ (w'.cell? ⟨b2, o2 + i * 4, none⟩ = some (.string (strL dn)) ∧ w'.cell? ⟨b2, o2 + i * 4 + 1, none⟩ = some (.int .i64 dt) ∧ w'.cell? ⟨b2, o2 + i * 4 + 2, none⟩ = some (.int .i64 dz) ∧ w'.cell? ⟨b2, o2 + i * 4 + 3, none⟩ = some (.bool dl)) ∧ w'.cell? ⟨b3, o3 + i * 4, none⟩ = some (.int .i64 xk) ∧ w'.cell? ⟨b3, o3 + i * 4 + 1, none⟩ = some (.int .i64 xi) ∧ w'.cell? ⟨b3, o3 + i * 4 + 2, none⟩ = some (.int .u64 xu) ∧ w'.cell? ⟨b3, o3 + i * 4 + 3, none⟩ = some (.string (strL xs))) (by kernel_rfl) ⟨ef, et, ex⟩ (fun hHeld => ?_)
            refine wpAnyH_takeL (i := 0) (v := ?vhy18) rfl (by kernel_rfl) (by kernel_rfl) (by kernel_rfl) (fun _ _ _ h => h) (Or.inl ⟨by rfl, ?hy18⟩) (by assumption) ?rhy18
            case hy18 => ((intro w hSw; (try dsimp only at hSw); go_simp); try with_reducible rfl)
            try simp only [Act.put, List.setIfInBounds_toArray, List.set_cons_zero, List.set_cons_succ]
            refine wpAnyH_takeL (i := 1) (v := ?vhy19) rfl (by kernel_rfl) (by kernel_rfl) (by kernel_rfl) (fun _ _ _ h => h) (Or.inl ⟨by rfl, ?hy19⟩) (by assumption) ?rhy19
            case hy19 => ((intro w hSw; (try dsimp only at hSw); go_simp); try with_reducible rfl)
            try simp only [Act.put, List.setIfInBounds_toArray, List.set_cons_zero, List.set_cons_succ]
            refine wpAnyH_takeL (i := 2) (v := ?vhy20) rfl (by kernel_rfl) (by kernel_rfl) (by kernel_rfl) (fun _ _ _ h => h) (Or.inl ⟨by rfl, ?hy20⟩) (by assumption) ?rhy20
            case hy20 => ((intro w hSw; (try dsimp only at hSw); go_simp); try with_reducible rfl)
            try simp only [Act.put, List.setIfInBounds_toArray, List.set_cons_zero, List.set_cons_succ]
            refine wpAnyH_takeL (i := 3) (v := ?vhy21) rfl (by kernel_rfl) (by kernel_rfl) (by kernel_rfl) (fun _ _ _ h => h) (Or.inl ⟨by rfl, ?hy21⟩) (by assumption) ?rhy21
            case hy21 => ((intro w hSw; (try dsimp only at hSw); go_simp); try with_reducible rfl)
            try simp only [Act.put, List.setIfInBounds_toArray, List.set_cons_zero, List.set_cons_succ]
            refine wpAnyH_takeL (i := 4) (v := ?vhy22) rfl (by kernel_rfl) (by kernel_rfl) (by kernel_rfl) (fun _ _ _ h => h) (Or.inl ⟨by rfl, ?hy22⟩) (by assumption) ?rhy22
            case hy22 => ((intro w hSw; (try dsimp only at hSw); go_simp); try with_reducible rfl)
            try simp only [Act.put, List.setIfInBounds_toArray, List.set_cons_zero, List.set_cons_succ]
            refine wpAnyH_takeL (i := 5) (v := ?vhy23) rfl (by kernel_rfl) (by kernel_rfl) (by kernel_rfl) (fun _ _ _ h => h) (Or.inl ⟨by rfl, ?hy23⟩) (by assumption) ?rhy23
            case hy23 => ((intro w hSw; (try dsimp only at hSw); go_simp); try with_reducible rfl)
            try simp only [Act.put, List.setIfInBounds_toArray, List.set_cons_zero, List.set_cons_succ]
            refine wpAnyH_takeL (i := 6) (v := ?vhy24) rfl (by kernel_rfl) (by kernel_rfl) (by kernel_rfl) (fun _ _ _ h => h) (Or.inl ⟨by rfl, ?hy24⟩) (by assumption) ?rhy24
            case hy24 => ((intro w hSw; (try dsimp only at hSw); go_simp); try with_reducible rfl)
            try simp only [Act.put, List.setIfInBounds_toArray, List.set_cons_zero, List.set_cons_succ]
            refine wpAnyH_takeL (i := 7) (v := ?vhy25) rfl (by kernel_rfl) (by kernel_rfl) (by kernel_rfl) (fun _ _ _ h => h) (Or.inl ⟨by rfl, ?hy25⟩) (by assumption) ?rhy25
            case hy25 => ((intro w hSw; (try dsimp only at hSw); go_simp); try with_reducible rfl)
            try simp only [Act.put, List.setIfInBounds_toArray, List.set_cons_zero, List.set_cons_succ]
            refine wpAnyH_takeL (i := 8) (v := ?vhy26) rfl (by kernel_rfl) (by kernel_rfl) (by kernel_rfl) (fun _ _ _ h => h) (Or.inl ⟨by rfl, ?hy26⟩) (by assumption) ?rhy26
            case hy26 => ((intro w hSw; (try dsimp only at hSw); go_simp); try with_reducible rfl)
            try simp only [Act.put, List.setIfInBounds_toArray, List.set_cons_zero, List.set_cons_succ]
            refine wpAnyH_takeL (i := 9) (v := ?vhy27) rfl (by kernel_rfl) (by kernel_rfl) (by kernel_rfl) (fun _ _ _ h => h) (Or.inl ⟨by rfl, ?hy27⟩) (by assumption) ?rhy27
            case hy27 => ((intro w hSw; (try dsimp only at hSw); go_simp); try with_reducible rfl)
            try simp only [Act.put, List.setIfInBounds_toArray, List.set_cons_zero, List.set_cons_succ]
            refine wpAnyH_takeL (i := 10) (v := ?vhy28) rfl (by kernel_rfl) (by kernel_rfl) (by kernel_rfl) (fun _ _ _ h => h) (Or.inl ⟨by rfl, ?hy28⟩) (by assumption) ?rhy28
            case hy28 => ((intro w hSw; (try dsimp only at hSw); go_simp); try with_reducible rfl)
            try simp only [Act.put, List.setIfInBounds_toArray, List.set_cons_zero, List.set_cons_succ]
            refine wpAnyH_takeL (i := 11) (v := ?vhy29) rfl (by kernel_rfl) (by kernel_rfl) (by kernel_rfl) (fun _ _ _ h => h) (Or.inl ⟨by rfl, ?hy29⟩) (by assumption) ?rhy29
            case hy29 => ((intro w hSw; (try dsimp only at hSw); go_simp); try with_reducible rfl)
            try simp only [Act.put, List.setIfInBounds_toArray, List.set_cons_zero, List.set_cons_succ]
            refine wpAnyH_ready (rs := [12, 16]) (by kernel_rfl) (by simp) ?_
            refine AllReadyH.consL (i := 12) rfl (fun K hK => ?_) (AllReadyH.consL (i := 16) rfl (fun K hK => ?_) AllReadyH.nil)
            · go_simp
              refine (hcv.out _ (hEw.below (Below.refl wr.heap.size wr).drew)).mono ?_
              rintro e w4 ⟨rfl, g4⟩
              have g4 : Below wr.heap.size wr w4 := ⟨g4.os, g4.tape, g4.output, g4.size, g4.block⟩
              refine hK.out _ _ ⟨keep4 g4 ef, keep4 g4 et, keep4 g4 ex⟩ (fun hHeld2 => ?_)
              clear hK
              try simp only [Act.put, List.setIfInBounds_toArray, List.set_cons_zero, List.set_cons_succ]
              refine wpAnyH_takeL (i := 13) (v := ?vhy30) rfl (by kernel_rfl) (by kernel_rfl) (by kernel_rfl) (fun _ _ _ h => h) (Or.inl ⟨by rfl, ?hy30⟩) (by assumption) ?rhy30
              case hy30 => ((intro w hSw; (try dsimp only at hSw); go_simp); try with_reducible rfl)
              try simp only [Act.put, List.setIfInBounds_toArray, List.set_cons_zero, List.set_cons_succ]
              refine wpAnyH_takeL (i := 14) (v := ?vhy31) rfl (by kernel_rfl) (by kernel_rfl) (by kernel_rfl) (fun _ _ _ h => h) (Or.inl ⟨by rfl, ?hy31⟩) (by assumption) ?rhy31
              case hy31 => ((intro w hSw; (try dsimp only at hSw); go_simp); try with_reducible rfl)
              try simp only [Act.put, List.setIfInBounds_toArray, List.set_cons_zero, List.set_cons_succ]
              refine wpAnyH_takeL (i := 15) (v := ?vhy32) rfl (by kernel_rfl) (by kernel_rfl) (by kernel_rfl) (fun _ _ _ h => h) (Or.inl ⟨by rfl, ?hy32⟩) (by assumption) ?rhy32
              case hy32 => ((intro w hSw; (try dsimp only at hSw); go_simp); try with_reducible rfl)
              try simp only [Act.put, List.setIfInBounds_toArray, List.set_cons_zero, List.set_cons_succ]
              refine wpAnyH_ready (rs := [16]) (by kernel_rfl) (by simp) ?_
              refine AllReadyH.consL (i := 16) rfl (fun K hK => ?_) AllReadyH.nil
              go_simp
              have g5 := gr_alloc g4 (.cells #[.int .i64 0, .int .i64 0, .int .u64 0, .string { data := #[] }] 28)
              refine hK.out _ _ ⟨keep4 g5 ef, keep4 g5 et, keep4 g5 ex⟩ (fun hHeld3 => ?_)
              clear hK
              try simp only [Act.put, List.setIfInBounds_toArray, List.set_cons_zero, List.set_cons_succ]
              refine wpAnyH_ready (rs := [17]) (by kernel_rfl) (by simp) ?_
              refine AllReadyH.consL (i := 17) rfl (fun K hK => ?_) AllReadyH.nil
              go_simp
              have g6 := gr_alloc g4 (.cells #[.int .i64 yk, .int .i64 yi, .int .u64 yu, .string (strL ys)] 28)
              refine hK.out _ _ ⟨keep4 g6 ef, keep4 g6 et, keep4 g6 ex⟩ (fun hHeld4 => ?_)
              clear hK
              try simp only [Act.put, List.setIfInBounds_toArray, List.set_cons_zero, List.set_cons_succ]
              refine wpAnyH_takeL (i := 18) (v := ?vhy33) rfl (by kernel_rfl) (by kernel_rfl) (by kernel_rfl) (fun _ _ _ h => h) (Or.inl ⟨by rfl, ?hy33⟩) (by assumption) ?rhy33
              case hy33 => ((intro w hSw; (try dsimp only at hSw); go_simp); try with_reducible rfl)
              try simp only [Act.put, List.setIfInBounds_toArray, List.set_cons_zero, List.set_cons_succ]
              refine wpAnyH_done (by kernel_rfl) ?_ _
              refine NoPanic.normal ?_
              have hkb := VBox.new w4 yk yi yu (strL ys)
              clear hHeld hHeld2 hHeld3 hHeld4 hcv
              go_wp2_with fail
              go_meet
              exact ⟨_, rfl, rfl, hkb, g6⟩
            · go_simp
              have g3 : Below wr.heap.size wr (wr.alloc (.cells #[.int .i64 0, .int .i64 0, .int .u64 0, .string { data := #[] }] 28)).drew := ((Below.refl wr.heap.size wr).alloc (Nat.le_refl _) _).drew
              have hkn : VBox (wr.alloc (.cells #[.int .i64 0, .int .i64 0, .int .u64 0, .string { data := #[] }] 28)).drew wr.heap.size 0 0 0 { data := #[] } := VBox.new wr 0 0 0 { data := #[] }
              have hln : wr.heap.size < (wr.alloc (.cells #[.int .i64 0, .int .i64 0, .int .u64 0, .string { data := #[] }] 28)).drew.heap.size := hkn.lt
              refine hK.out _ _ ⟨keep4 g3 ef, keep4 g3 et, keep4 g3 ex⟩ (fun hHeld2 => ?_)
              clear hK
              try simp only [Act.put, List.setIfInBounds_toArray, List.set_cons_zero, List.set_cons_succ]
              refine wpAnyH_ready (rs := [12]) (by kernel_rfl) (by simp) ?_
              refine AllReadyH.consL (i := 12) rfl (fun K hK => ?_) AllReadyH.nil
              go_simp
              refine (hcv.out _ (hEw.below g3)).mono ?_
              rintro e w4 ⟨rfl, g4⟩
              have hkn2 : VBox w4 wr.heap.size 0 0 0 { data := #[] } := (g4.block _ hln).trans hkn
              have g5 := gr g3 g4
              refine hK.out _ _ ⟨keep4 g5 ef, keep4 g5 et, keep4 g5 ex⟩ (fun hHeld3 => ?_)
              clear hK hcv
              try simp only [Act.put, List.setIfInBounds_toArray, List.set_cons_zero, List.set_cons_succ]
              refine wpAnyH_takeL (i := 13) (v := ?vhy34) rfl (by kernel_rfl) (by kernel_rfl) (by kernel_rfl) (fun _ _ _ h => h) (Or.inl ⟨by rfl, ?hy34⟩) (by assumption) ?rhy34
              case hy34 => ((intro w hSw; (try dsimp only at hSw); go_simp); try with_reducible rfl)
              try simp only [Act.put, List.setIfInBounds_toArray, List.set_cons_zero, List.set_cons_succ]
              refine wpAnyH_takeL (i := 14) (v := ?vhy35) rfl (by kernel_rfl) (by kernel_rfl) (by kernel_rfl) (fun _ _ _ h => h) (Or.inl ⟨by rfl, ?hy35⟩) (by assumption) ?rhy35
              case hy35 => ((intro w hSw; (try dsimp only at hSw); go_simp); try with_reducible rfl)
              try simp only [Act.put, List.setIfInBounds_toArray, List.set_cons_zero, List.set_cons_succ]
              refine wpAnyH_takeL (i := 15) (v := ?vhy36) rfl (by kernel_rfl) (by kernel_rfl) (by kernel_rfl) (fun _ _ _ h => h) (Or.inl ⟨by rfl, ?hy36⟩) (by assumption) ?rhy36
              case hy36 => ((intro w hSw; (try dsimp only at hSw); go_simp); try with_reducible rfl)
              try simp only [Act.put, List.setIfInBounds_toArray, List.set_cons_zero, List.set_cons_succ]
              have hkc := hkn2.cells
              have hf0 := hkn2.frozen 0
              have hf1 := hkn2.frozen 1
              have hf2 := hkn2.frozen 2
              have hf3 := hkn2.frozen 3
              refine wpAnyH_ready (rs := [17]) (by kernel_rfl) (by simp) ?_
              refine AllReadyH.consL (i := 17) rfl (fun K hK => ?_) AllReadyH.nil
              go_simp
              have hkb := hkn2.put yk yi yu (strL ys)
              have g6 := below_put g5 (Nat.le_refl _) yk yi yu (strL ys)
              refine hK.out _ _ ⟨keep4 g6 ef, keep4 g6 et, keep4 g6 ex⟩ (fun hHeld4 => ?_)
              clear hK
              try simp only [Act.put, List.setIfInBounds_toArray, List.set_cons_zero, List.set_cons_succ]
              refine wpAnyH_takeL (i := 18) (v := ?vhy37) rfl (by kernel_rfl) (by kernel_rfl) (by kernel_rfl) (fun _ _ _ h => h) (Or.inl ⟨by rfl, ?hy37⟩) (by assumption) ?rhy37
              case hy37 => ((intro w hSw; (try dsimp only at hSw); go_simp); try with_reducible rfl)
              try simp only [Act.put, List.setIfInBounds_toArray, List.set_cons_zero, List.set_cons_succ]
              refine wpAnyH_done (by kernel_rfl) ?_ _
              refine NoPanic.normal ?_
              clear hHeld hHeld2 hHeld3 hHeld4 hkc hf0 hf1 hf2 hf3
              go_wp2_with fail
              go_meet
              exact ⟨_, rfl, rfl, hkb, g6⟩
          case rest =>
            obtain ⟨Bx, rfl, rfl, hbx, hgx⟩ := hcut
            have hb5 := gr hbw1 hgx
            have hO5 := hO1.below hgx
            clear hgx hcv ef et ex hO1 hbw1 hEw
            generalize wc = w5 at *
            have cy := hbx.cells
            by_cases hz : no = 0
            · subst hz
              have hta := htk.out
              have hlit : Rv (w5.alloc (.cells #[.int .i64 yk, .int .i64 yi, .int .u64 yu, .string (strL ys)] 28)) 4 (some ⟨w5.heap.size, 0, none⟩) 1 1 (vcells [⟨yk, yi, yu, ys⟩]) := lit_rv w5 28 [⟨yk, yi, yu, ys⟩] (show 1 ≤ maxLen by decide)
              have hbB : Below w5.heap.size w5 (w5.alloc (.cells #[.int .i64 yk, .int .i64 yi, .int .u64 yu, .string (strL ys)] 28)) := (Below.refl _ w5).alloc (Nat.le_refl _) _
              have hO6 := hO5.below hbB
              have hb6 := gr hb5 hbB
              have hml : ((rs.take i).map (·.1)).length = i := by simp; omega
              clear hbad
              go_wp2_with (at_builtin; refine wpList_append_V rfl _ _ rfl w.heap.size Bo i d ((rs.take i).map (·.1)) rfl hO6 _ 1 1 [⟨yk, yi, yu, ys⟩] rfl hlit (by omega) hb6.size ?_; intro A' c' w7 hO7 hg7 hab7)
              have hb7 : Below w.heap.size w w7 := hb6.grown hg7 hb6.size (fun q e => (Ov.ab hO6 q e).1)
              go_wp2
              refine ⟨⟨i + 1, A', c', rfl, by simp, by omega, ?_, ?_, hb7⟩, by simp [intOf]; omega⟩
              · rw [hta]
                intro y hy
                rcases List.mem_append.1 hy with hy | hy
                · exact h0 y hy
                · rw [List.mem_singleton.1 hy]
              · rw [hta, List.map_append]
                exact hO7
            · have hd : ((no : Int) != 0) = true := by simp; omega
              have hN := hbad.out hz
              replace hN := Lib.hid hN
              clear hbad hz hO5
              go_wp2
              go_ret2
              exact ⟨none, 0, 0, by rw [hN.out]; rfl, by rw [hN.out]; exact Ov.nil _ _ _ _, hb5⟩
        · obtain rfl : i = k := by omega
          have hN := rowY_ok (rs := rs) (by rw [List.take_of_length_le (by omega)] at h0; exact h0)
          rw [List.take_of_length_le (by omega)] at hO
          have hq : decide ((i : Int) < (i : Int)) = false := by simp
          replace hN := Lib.hid hN
          clear h0 hget
          go_wp2
          go_ret2
          exact ⟨Bo, i, d, by rw [hN.out]; rfl, by rw [hN.out]; exact hO, hbw⟩
    · have q1 : ((n : Int) != (m : Int)) = false := by simp; omega
      have q2 : ((k : Int) != (n : Int)) = true := by simp; omega
      have hV : crowV fs ts vs = ([], 130) := by unfold crowV; rw [if_pos (by omega)]
      unfold RowP
      rw [hV]
      clear hV hnm hkn
      go_enter Tryz.func19, Tryz.ntmps19
      go_wp2
      go_ret2
      exact ⟨none, 0, 0, rfl, Ov.nil _ _ _ _, Below.refl _ _⟩
  · have q1 : ((n : Int) != (m : Int)) = true := by simp; omega
    have hV : crowV fs ts vs = ([], 130) := by unfold crowV; rw [if_pos (by omega)]
    unfold RowP
    rw [hV]
    clear hV hnm
    go_enter Tryz.func19, Tryz.ntmps19
    go_wp2
    go_ret2
    exact ⟨none, 0, 0, rfl, Ov.nil _ _ _ _, Below.refl _ _⟩
end Go.Proofs.YtagoooclfcbdeaaGreatDoor
