/- The plain law of reading: the key of what is read is what was read; what is read of a key is its value. -/
import Derived.Test.YtdgmhegcoogokaaDoorKeyJ
import Derived.Test.YtdgmhegcoogokaaDoorKeyW
import Derived.Test.YtdgmhegcoogokaaDoorKeyOrd
namespace Go.Proofs.YtdgmhegcoogokaaDoor
set_option linter.unusedVariables false

theorem beB_rdN : ∀ (n : Nat) (l : List UInt8), l.length = n → beB (rdN l) n = l
  | 0, l, h => by
    obtain rfl : l = [] := List.eq_nil_of_length_eq_zero h
    rfl
  | n + 1, l, h => by
    have hne : l ≠ [] := fun e => by rw [e] at h; cases h
    have e := (List.dropLast_concat_getLast hne).symm
    have hd : l.dropLast.length = n := by simp; omega
    have ih := beB_rdN n l.dropLast hd
    generalize l.dropLast = a at *
    generalize l.getLast hne = b at *
    subst e
    rw [rdN_snoc, beB_snoc]
    have e1 : (rdN a * 256 + b.toNat) / 256 = rdN a := by have := b.toNat_lt; omega
    have e2 : UInt8.ofNat (rdN a * 256 + b.toNat) = b := by
      apply UInt8.toNat_inj.1
      have := b.toNat_lt
      simp
    rw [e1, e2, ih]

theorem numL_readN {t : List UInt8} {v m : Nat} (h : readN t = (v, m, 0)) : numL v = t.take m := by
  cases t with
  | nil => cases h
  | cons b t =>
    by_cases hw : 8 < b.toNat ∨ t.length < b.toNat
    · unfold readN at h
      simp only at h
      rw [if_pos hw] at h
      cases h
    · rw [readN_cons b t (by omega) (by omega)] at h
      by_cases hq : needN (rdN (t.take b.toNat)) = b.toNat
      · rw [if_pos hq] at h
        injection h with h1 h2
        injection h2 with h2 _
        subst h1 h2
        unfold numL
        rw [hq, beB_rdN _ _ (by simp; omega)]
        rw [Nat.add_comm 1, List.take_succ_cons]
        simp
      · rw [if_neg hq] at h
        cases h

theorem grpL_le (l : List UInt8) (h : l.length ≤ 8) : grpL l = l ++ List.replicate (8 - l.length) 0 ++ [UInt8.ofNat l.length] := by
  unfold grpL
  rw [dif_neg (by omega)]
theorem grpL_gt (l : List UInt8) (h : 8 < l.length) : grpL l = l.take 8 ++ 9 :: grpL (l.drop 8) := by
  conv => lhs; unfold grpL
  rw [dif_pos h]

theorem readG_key : ∀ (d : Nat) (out t s : List UInt8) (m : Nat), t.length ≤ d → readG out t = some (s, m) → ∃ u, s = out ++ u ∧ (u = [] → out = []) ∧ grpL u = t.take m ∧ s.length ≤ 200
  | 0, out, t, s, m, hd, h => by
    rw [readG, dif_pos (by omega)] at h
    cases h
  | d + 1, out, t, s, m, hd, h => by
    by_cases h9 : t.length < 9
    · rw [readG, dif_pos h9] at h
      cases h
    obtain ⟨g0, g1, g2, g3, g4, g5, g6, g7, g8, rest, rfl⟩ := nine t (by omega)
    rw [readG9] at h
    split at h
    · cases h
    split at h
    · cases h
    rename_i hn9 hl
    split at h
    · rename_i h8
      rw [Option.map_eq_some_iff] at h
      obtain ⟨⟨s', m'⟩, h1, h2⟩ := h
      injection h2 with h2 h3
      subst h2 h3
      obtain ⟨u, e1, e2, e3, e4⟩ := readG_key d _ rest s' m' (by simp at hd; omega) h1
      have hm : min g8.toNat 8 = 8 := by omega
      rw [hm] at e1 e2
      have hg8 : g8 = 9 := UInt8.toNat_inj.1 h8
      have hu : u ≠ [] := fun e => by
        have := e2 e
        simp at this
      refine ⟨[g0, g1, g2, g3, g4, g5, g6, g7] ++ u, ?_, fun e => by simp at e, ?_, e4⟩
      · rw [e1]
        simp
      · have := List.length_pos_iff.2 hu
        rw [grpL_gt _ (by simp; omega)]
        simp [e3, hg8]
    · split at h
      · rename_i h8 hc
        injection h with h
        injection h with h1 h2
        subst h1 h2
        have hm : min g8.toNat 8 = g8.toNat := by omega
        rw [hm] at hl
        rw [hm]
        have hlen : ([g0, g1, g2, g3, g4, g5, g6, g7].take g8.toNat).length = g8.toNat := by simp; omega
        refine ⟨[g0, g1, g2, g3, g4, g5, g6, g7].take g8.toNat, rfl, fun e => ?_, ?_, by omega⟩
        · rcases hc.2 with h | h
          · rw [e] at hlen
            simp at hlen
            omega
          · exact h
        · rw [grpL_le _ (by omega), hlen, hc.1]
          simp
      · cases h

theorem readG_grpL : ∀ (d : Nat) (out u r : List UInt8), u.length ≤ d → (out ++ u).length ≤ 200 → (u = [] → out = []) → readG out (grpL u ++ r) = some (out ++ u, (grpL u).length) := by
  intro d
  induction d using Nat.strongRecOn with
  | _ d ih =>
    intro out u r hd hl ho
    by_cases h8 : u.length ≤ 8
    · have hpl : (u ++ List.replicate (8 - u.length) 0).length = 8 := by simp; omega
      have hgl := grpL_le u h8
      obtain ⟨g0, g1, g2, g3, g4, g5, g6, g7, hg⟩ := eight (u ++ List.replicate (8 - u.length) 0) hpl
      have ht : [g0, g1, g2, g3, g4, g5, g6, g7].take u.length = u := by rw [← hg]; simp
      rw [hgl, hg]
      have e : [g0, g1, g2, g3, g4, g5, g6, g7] ++ [UInt8.ofNat u.length] ++ r = g0 :: g1 :: g2 :: g3 :: g4 :: g5 :: g6 :: g7 :: UInt8.ofNat u.length :: r := by simp
      have hn : (UInt8.ofNat u.length).toNat = u.length := by simp; omega
      rw [e, readG9, hn, if_neg (by omega), Nat.min_eq_left h8, ht, if_neg (by omega), if_neg (by omega), if_pos]
      · rfl
      · refine ⟨hg, ?_⟩
        by_cases h0 : 0 < u.length
        · exact .inl h0
        · exact .inr (ho (List.eq_nil_of_length_eq_zero (by omega)))
    · have hgl := grpL_gt u (by omega)
      obtain ⟨g0, g1, g2, g3, g4, g5, g6, g7, hg⟩ := eight (u.take 8) (by simp; omega)
      have hu : u = [g0, g1, g2, g3, g4, g5, g6, g7] ++ u.drop 8 := by rw [← hg, List.take_append_drop]
      have hul : (u.drop 8).length = u.length - 8 := by simp
      rw [hgl, hg]
      have e : [g0, g1, g2, g3, g4, g5, g6, g7] ++ 9 :: grpL (u.drop 8) ++ r = g0 :: g1 :: g2 :: g3 :: g4 :: g5 :: g6 :: g7 :: 9 :: (grpL (u.drop 8) ++ r) := by simp
      have h9 : (9 : UInt8).toNat = 9 := rfl
      have hm : min 9 8 = 8 := rfl
      have ht : [g0, g1, g2, g3, g4, g5, g6, g7].take 8 = [g0, g1, g2, g3, g4, g5, g6, g7] := rfl
      have hsum : (out ++ u).length = (out ++ [g0, g1, g2, g3, g4, g5, g6, g7]).length + (u.drop 8).length := by
        simp
        omega
      rw [e, readG9, h9, if_neg (by omega), hm, ht, if_neg (by omega), if_pos rfl]
      rw [ih (u.length - 8) (by omega) (out ++ [g0, g1, g2, g3, g4, g5, g6, g7]) (u.drop 8) r (by omega) (by rw [List.length_append, ← hsum]; exact hl) (fun e => by
        rw [e] at hul
        simp at hul
        omega)]
      simp only [Option.map_some]
      rw [List.append_assoc, ← hu]
      simp

theorem strL_nil : strL [] = ByteArray.empty := rfl
/-- What is read is a value that may be, and its key is what was read. -/
theorem readV_key {l : List UInt8} {x : Vl} {n : Nat} (h : readV l = some (x, n)) : x.chk = 0 ∧ x.Wf ∧ keyV x = l.take n := by
  cases l with
  | nil => cases h
  | cons b t =>
    rw [readV_cons] at h
    split at h
    · cases h
    rename_i h4
    rw [Option.map_eq_some_iff] at h
    obtain ⟨⟨i, u, s, m⟩, h1, h2⟩ := h
    injection h2 with h2 h3
    subst h2 h3
    have hb : UInt8.ofNat ((b.toNat : Int)).toNat = b := by simp
    have htk : (b :: t).take (1 + m) = b :: t.take m := by rw [Nat.add_comm]; rfl
    rw [htk]
    simp only
    unfold keyV
    simp only [hb]
    have hk : b = 0 ∨ b = 1 ∨ b = 2 ∨ b = 3 ∨ b = 4 := by
      have : b.toNat = 0 ∨ b.toNat = 1 ∨ b.toNat = 2 ∨ b.toNat = 3 ∨ b.toNat = 4 := by omega
      rcases this with h | h | h | h | h
      · exact .inl (UInt8.toNat_inj.1 h)
      · exact .inr (.inl (UInt8.toNat_inj.1 h))
      · exact .inr (.inr (.inl (UInt8.toNat_inj.1 h)))
      · exact .inr (.inr (.inr (.inl (UInt8.toNat_inj.1 h))))
      · exact .inr (.inr (.inr (.inr (UInt8.toNat_inj.1 h))))
    rcases hk with rfl | rfl | rfl | rfl | rfl
    · have h1 : some ((0 : Int), (0 : Int), ([] : List UInt8), 0) = some (i, u, s, m) := h1
      injection h1 with h1; injection h1 with e1 h1; injection h1 with e2 h1; injection h1 with e3 e4
      subst e1 e2 e3 e4
      exact ⟨by decide, ⟨by decide, by decide, by decide, by decide, by decide⟩, rfl⟩
    · have h1 : readI t = some (i, u, s, m) := h1
      unfold readI at h1
      split at h1
      · cases h1
      rename_i h8
      injection h1 with h1; injection h1 with e1 h1; injection h1 with e2 h1; injection h1 with e3 e4
      have hlt := rdN_lt (t.take 8)
      have hl8 : (t.take 8).length = 8 := by simp; omega
      rw [hl8] at hlt
      have hlt2 : rdN (t.take 8) < 18446744073709551616 := hlt
      have hbe := beB_rdN 8 (t.take 8) hl8
      generalize rdN (t.take 8) = n at *
      subst e1 e2 e3 e4
      refine ⟨?_, ⟨by first | (simp only; omega) | simp, by first | (simp only; omega) | simp, by first | decide | (simp only; omega) | simp, by first | decide | (simp only; omega) | simp, by simp⟩, ?_⟩
      · unfold Vl.chk chkV
        rw [if_pos (by unfold okV; rw [decide_eq_true_iff]; exact .inr (.inl ⟨rfl, rfl, rfl⟩)), if_neg (by simp [strL_size])]
      · have e : ((n : Int) - 9223372036854775808 + 9223372036854775808).toNat = n := by omega
        show 1 :: beB ((n : Int) - 9223372036854775808 + 9223372036854775808).toNat 8 = _
        rw [e, hbe]
    · have h1 : (if (readN t).2.2 ≠ 0 then none else some ((0 : Int), ((readN t).1 : Int), ([] : List UInt8), (readN t).2.1)) = some (i, u, s, m) := h1
      rcases readN_spec t with h | ⟨v, k, h, h2, h3, h4, h5⟩
      · rw [h] at h1
        cases h1
      · rw [h] at h1
        injection h1 with h1; injection h1 with e1 h1; injection h1 with e2 h1; injection h1 with e3 e4
        have hn := numL_readN h
        simp only at e2 e4
        subst e1 e2 e3 e4
        refine ⟨?_, ⟨by first | decide | (simp only; omega) | simp, by first | decide | (simp only; omega) | simp, by first | (simp only; omega) | simp, by first | (simp only; omega) | simp, by simp⟩, ?_⟩
        · unfold Vl.chk chkV
          rw [if_pos (by unfold okV; rw [decide_eq_true_iff]; exact .inr (.inr (.inl ⟨rfl, rfl, rfl⟩))), if_neg (by simp [strL_size])]
        · show 2 :: numL ((v : Int)).toNat = _
          rw [Int.toNat_natCast, hn]
    · have h1 : readB t = some (i, u, s, m) := h1
      cases t with
      | nil => cases h1
      | cons c t =>
        unfold readB at h1
        simp only at h1
        split at h1
        · cases h1
        rename_i hc
        injection h1 with h1; injection h1 with e1 h1; injection h1 with e2 h1; injection h1 with e3 e4
        have hcc : UInt8.ofNat ((c.toNat : Int)).toNat = c := by simp
        subst e1 e2 e3 e4
        refine ⟨?_, ⟨by first | (simp only; omega) | simp, by first | (simp only; omega) | simp, by first | decide | (simp only; omega) | simp, by first | decide | (simp only; omega) | simp, by simp⟩, ?_⟩
        · unfold Vl.chk chkV
          rw [if_pos (by unfold okV; rw [decide_eq_true_iff]; exact .inr (.inr (.inr (.inl ⟨rfl, rfl, rfl, by simp only; omega⟩)))), if_neg (by simp [strL_size])]
        · show 3 :: [UInt8.ofNat ((c.toNat : Int)).toNat] = _
          rw [hcc]
          rfl
    · have h1 : (readG [] t).map (fun r => ((0 : Int), (0 : Int), r.1, r.2)) = some (i, u, s, m) := h1
      rw [Option.map_eq_some_iff] at h1
      obtain ⟨⟨s', m'⟩, h2, h3⟩ := h1
      injection h3 with e1 h1; injection h1 with e2 h1; injection h1 with e3 e4
      obtain ⟨w, e5, _, e6, e7⟩ := readG_key t.length [] t s' m' (Nat.le_refl _) h2
      simp only at e3 e4
      rw [List.nil_append] at e5
      subst e1 e2 e3 e4 e5
      refine ⟨?_, ⟨by first | decide | (simp only; omega) | simp, by first | decide | (simp only; omega) | simp, by first | decide | (simp only; omega) | simp, by first | decide | (simp only; omega) | simp, by simp only [maxLen]; omega⟩, ?_⟩
      · unfold Vl.chk chkV
        rw [if_pos (by unfold okV; rw [decide_eq_true_iff]; exact .inr (.inr (.inr (.inr ⟨rfl, rfl, rfl⟩)))), if_neg (by simp [strL_size]; omega)]
      · show 4 :: grpL s' = _
        rw [e6]

/-- What is read of a key. -/
theorem readV_of_key {x : Vl} (hw : x.Wf) (h : x.chk = 0) (r : List UInt8) : readV (keyV x ++ r) = some (x, (keyV x).length) := by
  have h200 := (chk_ok h).2
  have hi0 := hw.i0
  have hi1 := hw.i1
  have hu0 := hw.u0
  have hu1 := hw.u1
  rcases ok_shape hw h with ⟨e1, e2, e3, e4⟩ | ⟨e1, e3, e4⟩ | ⟨e1, e2, e4⟩ | ⟨e1, e3, e4, e5⟩ | ⟨e1, e2, e3⟩
  · obtain ⟨k, i, u, s⟩ := x
    subst e1 e2 e3 e4
    rfl
  · obtain ⟨k, i, u, s⟩ := x
    simp only at e1 e3 e4 hi0 hi1
    subst e1 e3 e4
    have hk : keyV ⟨1, i, 0, []⟩ = 1 :: beB (i + 9223372036854775808).toNat 8 := rfl
    have hr := rdN_beB 8 (i + 9223372036854775808).toNat (by omega)
    have hl := beB_length (i + 9223372036854775808).toNat 8
    rw [hk, List.cons_append, readV_cons, if_neg (by decide)]
    have hq : readR ((1 : UInt8).toNat : Int) (beB (i + 9223372036854775808).toNat 8 ++ r) = some (i, 0, [], 8) := by
      show readI (beB (i + 9223372036854775808).toNat 8 ++ r) = some (i, 0, [], 8)
      unfold readI
      rw [if_neg (by simp; omega), List.take_append_of_le_length (by omega), List.take_of_length_le (by omega), hr]
      rw [show (((i + 9223372036854775808).toNat : Nat) : Int) - 9223372036854775808 = i from by omega]
    rw [hq]
    simp [hl]
  · obtain ⟨k, i, u, s⟩ := x
    simp only at e1 e2 e4 hu0 hu1
    subst e1 e2 e4
    have hk : keyV ⟨2, 0, u, []⟩ = 2 :: numL u.toNat := rfl
    have hr := readN_numL u.toNat r (by omega)
    have hl := numL_length u.toNat
    rw [hk, List.cons_append, readV_cons, if_neg (by decide)]
    have hq : readR ((2 : UInt8).toNat : Int) (numL u.toNat ++ r) = some (0, u, [], 1 + needN u.toNat) := by
      show readU _ = _
      unfold readU
      rw [hr, if_neg (by simp)]
      simp only
      rw [show ((u.toNat : Nat) : Int) = u from by omega]
    rw [hq]
    simp [hl]
    omega
  · obtain ⟨k, i, u, s⟩ := x
    simp only at e1 e3 e4 e5
    subst e1 e3 e4
    rcases e5 with rfl | rfl <;> rfl
  · obtain ⟨k, i, u, s⟩ := x
    simp only at e1 e2 e3 h200
    subst e1 e2 e3
    have hk : keyV ⟨4, 0, 0, s⟩ = 4 :: grpL s := rfl
    have hr := readG_grpL s.length [] s r (Nat.le_refl _) (by simpa using h200) (fun _ => rfl)
    rw [List.nil_append] at hr
    rw [hk, List.cons_append, readV_cons, if_neg (by decide)]
    have hq : readR ((4 : UInt8).toNat : Int) (grpL s ++ r) = some (0, 0, s, (grpL s).length) := by
      show (readG [] (grpL s ++ r)).map _ = _
      rw [hr]
      rfl
    rw [hq]
    simp
    omega

theorem pos_app {l : List UInt8} (pre : List (Place l)) (p : Place l) (rest : List (Place l)) : pos (pre ++ p :: rest) = pos ((pre ++ [p]) ++ rest) := by simp

/-- What is read one behind the other: its keys are what was read. -/
theorem KChain.keys {l : List UInt8} {i : Nat} {xs : List (Place l)} (h : KChain l i xs) : ∀ pre : List (Place l), pos pre = i → i ≤ pos (pre ++ xs) ∧ keysV (xs.map Place.x) = (l.drop i).take (pos (pre ++ xs) - i) := by
  induction h with
  | stop i _ =>
    intro pre hp
    rw [List.append_nil, hp]
    exact ⟨Nat.le_refl _, by simp [keysV]⟩
  | more p rest _ ih =>
    intro pre hp
    have hs := p.step
    obtain ⟨h1, h2⟩ := ih (pre ++ [p]) (pos_snoc _ _)
    rw [pos_app]
    refine ⟨by omega, ?_⟩
    rw [List.map_cons, keysV_cons, h2, (readV_key p.reads).2.2]
    rw [← List.drop_drop]
    generalize l.drop p.at_ = t
    generalize pos (pre ++ [p] ++ rest) = q at *
    rw [show q - p.at_ = p.k + (q - (p.at_ + p.k)) from by omega, List.take_add]
theorem KChain.fine {l : List UInt8} (xs : List (Place l)) : ∀ x ∈ xs.map Place.x, x.chk = 0 ∧ x.Wf := by
  intro x hx
  obtain ⟨p, _, rfl⟩ := List.mem_map.1 hx
  exact ⟨(readV_key p.reads).1, (readV_key p.reads).2.1⟩
theorem keys_of_dec {l : List UInt8} {xs : List (Place l)} (h : KChain l 0 xs) (hp : pos xs = l.length) : keysV (xs.map Place.x) = l := by
  have h2 := (h.keys [] rfl).2
  rw [List.nil_append, hp] at h2
  rw [h2]
  simp

/-- What is read of keys. -/
theorem KChain.of_keys {l : List UInt8} : ∀ (b : List Vl), (∀ x ∈ b, x.Wf ∧ x.chk = 0) → ∀ (i : Nat) (xs : List (Place l)), KChain l i xs → l.drop i = keysV b → i ≤ l.length → ∀ pre : List (Place l), pos pre = i → xs.map Place.x = b ∧ pos (pre ++ xs) = l.length
  | [], _, i, xs, h, hd, hi, pre, hp => by
    have hd : l.drop i = [] := hd
    have hl : i = l.length := by
      have := congrArg List.length hd
      simp at this
      omega
    rcases h.inv with ⟨rfl, _⟩ | ⟨p, rest, rfl, h0, _⟩
    · simp [hp, hl]
    · have := p.step
      omega
  | x :: b, hb, i, xs, h, hd, hi, pre, hp => by
    rw [keysV_cons] at hd
    have hx := hb x (by simp)
    have hr := readV_of_key hx.1 hx.2 (keysV b)
    rw [← hd] at hr
    rcases h.inv with ⟨rfl, hn⟩ | ⟨p, rest, rfl, h0, hch⟩
    · rw [hr] at hn
      cases hn
    · have hpr := p.reads
      rw [h0, hr] at hpr
      injection hpr with hpr
      injection hpr with e1 e2
      have hs := p.step
      have hd2 : l.drop (i + p.k) = keysV b := by
        rw [← List.drop_drop, hd, ← e2]
        simp
      obtain ⟨h1, h2⟩ := KChain.of_keys b (fun y hy => hb y (by simp [hy])) (i + p.k) rest hch hd2 (by omega) (pre ++ [p]) (by rw [pos_snoc, h0])
      rw [pos_app]
      exact ⟨by rw [List.map_cons, h1, e1], h2⟩
theorem dec_keys {b : List Vl} (hb : ∀ x ∈ b, x.Wf ∧ x.chk = 0) {xs : List (Place (keysV b))} (h : KChain (keysV b) 0 xs) (hl : (keysV b).length ≤ 2000) : decV xs = (b, 0) := by
  obtain ⟨h1, h2⟩ := KChain.of_keys b hb 0 xs h rfl (Nat.zero_le _) [] rfl
  rw [List.nil_append] at h2
  unfold decV
  rw [if_neg (by omega), h1]
theorem listsV_refl : ∀ xs : List Vl, listsV xs xs = 0
  | [] => rfl
  | x :: xs => by
    have h : ordV x x = 0 := ordV_zero.2 rfl
    rw [listsV, if_neg (by simp [h]), listsV_refl xs]
end Go.Proofs.YtdgmhegcoogokaaDoor
