/-
  Plain lemmas on these functions. No conditions but those that each states.
-/
import Derived.Test.YtpmanofdlhlkdaaFnTableColumnsP9
namespace Go.Proofs.Ytpmanofdlhlkdaa
set_option linter.unusedVariables false
set_option linter.unusedSimpArgs false
/-! The other draws, and the law. -/
theorem side_l1 {code : List UInt8} (r7 : List (List Str) × L00Src) (h : SzT r7.1) (h0 : 0 < r7.1.length) (kj : Int → Int → Str → Option (List (List Str) × Str × Int)) (Q : List (List Str) × Str × Int → Prop) : ∀ (n k N : Nat) (a sd hi : Int) (o : Str), k + n = r7.1[0].length → n < N → 0 ≤ a → a ≤ hi → hi + 2 * n ≤ 1000000 → o.length ≤ k →
    (∀ a' sd' o', 0 ≤ a' → a' ≤ hi + 2 * n → o'.length ≤ 20 → ∃ r, kj a' sd' o' = some r ∧ Q r) → ∃ r, s_DrawTableLines_l1 kj code r7 N a sd o (k : Int) = some r ∧ Q r := by
  have hi0 : idx r7.1 0 = some r7.1[0] := idx_lt r7.1 0 h0
  have hl := (h.2 _ (List.getElem_mem h0)).1
  intro n
  induction n with
  | zero =>
    intro k N a sd hi o hk hN h1 h2 h3 h4 kk
    obtain ⟨N, rfl⟩ := pos_fuel hN
    have hz : ¬ (k : Int) < (r7.1[0].length : Int) := by omega
    simp only [s_DrawTableLines_l1, hi0, Option.bind_some, hz, decide_false, cond_false]
    exact kk a sd o h1 (by omega) (by omega)
  | succ n ih =>
    intro k N a sd hi o hk hN h1 h2 h3 h4 kk
    obtain ⟨N, rfl⟩ := pos_fuel hN
    have hz : (k : Int) < (r7.1[0].length : Int) := by omega
    simp only [s_DrawTableLines_l1, hi0, Option.bind_some, hz, decide_true, cond_true, w64_nat k (by omega)]
    refine bindE (textA (code := code) (hi := hi) [[108], [114]] (by decide) ⟨rfl, h1, h2⟩ (by omega)) fun v g => ?_
    have hv : v.1.length = 1 := by
      have : ∀ s ∈ ([[108], [114]] : List Str), s.length = 1 := by decide
      exact this _ g.2
    rw [cat_some _ _ (by unfold LIM; omega), Option.bind_some]
    exact ih (k + 1) N _ _ (hi + 2) _ (by omega) (by omega) g.1.2.1 g.1.2.2 (by omega) (by rw [List.length_append]; omega) (fun a' sd' o' w1 w2 w3 => kk a' sd' o' w1 (by omega) w3)
theorem dLines (code : List UInt8) (N : Nat) (hN : 400 < N) : ∃ v : List (List Str) × Str × Int, s_DrawTableLines N code = some v ∧ SzT v.1 ∧ v.2.1.length ≤ 50 ∧ -100 ≤ v.2.2 ∧ v.2.2 ≤ 100 := by
  unfold s_DrawTableLines
  rw [fromA, Option.bind_some]
  simp only [withK_n]
  refine bindE (dTable (code := code) (hi := 0) ⟨rfl, Int.le_refl _, Int.le_refl _⟩ (by omega) N (by omega)) fun v g => ?_
  have rest : ∀ (a sd : Int) (o : Str), 0 ≤ a → a ≤ 5100 → o.length ≤ 20 → ∃ r, ((s_l00Src_pick (L00Src.mk code a sd) 16).bind fun r37 =>
      bif (r37.1 == 0) then
      (s_l00Src_text (L00Src.mk code r37.2.at_ r37.2.seed) ([[108], [120]] : List Str)).bind fun r41 =>
      (cat o r41.1).bind fun s43 =>
      (s_l00Src_pick (L00Src.mk code r41.2.at_ r41.2.seed) 4).bind fun r49 => some (v.1, s43, r49.1)
      else
      bif (r37.1 == 1) then
      (s_l00Src_among (L00Src.mk code r37.2.at_ r37.2.seed) [(-1), 0, 20, 21]).bind fun r47 => some (v.1, o, r47.1)
      else
      (s_l00Src_pick (L00Src.mk code r37.2.at_ r37.2.seed) 4).bind fun r49 => some (v.1, o, r49.1)) = some r ∧ SzT r.1 ∧ r.2.1.length ≤ 50 ∧ -100 ≤ r.2.2 ∧ r.2.2 ≤ 100 := by
    intro a sd o k0 k1 k2
    refine bindE (pickA (code := code) (hi := 5100) 16 ⟨rfl, k0, k1⟩ (by omega)) fun v2 g2 => ?_
    refine condE (fun _ => bindE (textA (code := code) (hi := 5102) [[108], [120]] (by decide) ⟨rfl, g2.1.2.1, g2.1.2.2⟩ (by omega)) fun v3 g3 => ?_) (fun _ => condE (fun _ => bindE (amongA (code := code) (hi := 5102) [(-1), 0, 20, 21] (by decide) ⟨rfl, g2.1.2.1, g2.1.2.2⟩ (by omega)) fun v3 g3 => ?_) (fun _ => bindE (pickA (code := code) (hi := 5102) 4 ⟨rfl, g2.1.2.1, g2.1.2.2⟩ (by omega)) fun v3 g3 => ⟨_, rfl, g.2, by show o.length ≤ 50; omega, by have := g3.2.1; show -100 ≤ v3.1; omega, by have := g3.2.2 (by omega); show v3.1 ≤ 100; omega⟩))
    · have hv : v3.1.length = 1 := by
        have : ∀ s ∈ ([[108], [120]] : List Str), s.length = 1 := by decide
        exact this _ g3.2
      rw [cat_some _ _ (by unfold LIM; omega), Option.bind_some]
      exact bindE (pickA (code := code) (hi := 5104) 4 ⟨rfl, g3.1.2.1, g3.1.2.2⟩ (by omega)) fun v4 g4 => ⟨_, rfl, g.2, by show (o ++ v3.1).length ≤ 50; rw [List.length_append]; omega, by have := g4.2.1; show -100 ≤ v4.1; omega, by have := g4.2.2 (by omega); show v4.1 ≤ 100; omega⟩
    · have : ∀ x ∈ ([(-1), 0, 20, 21] : List Int), -100 ≤ x ∧ x ≤ 100 := by decide
      exact ⟨_, rfl, g.2, by show o.length ≤ 50; omega, (this _ g3.2).1, (this _ g3.2).2⟩
  refine condE (fun hp => ?_) (fun _ => rest _ _ [] g.1.2.1 (by have := g.1.2.2; omega) (by simp))
  have hpos : 0 < v.1.length := by have := of_decide_eq_true hp; omega
  have hl := (g.2.2 _ (List.getElem_mem hpos)).1
  rw [show (0 : Int) = ((0 : Nat) : Int) from rfl]
  exact side_l1 (code := code) v g.2 hpos _ _ v.1[0].length 0 N _ _ (0 + 5000) [] (by omega) (by omega) g.1.2.1 g.1.2.2 (by omega) (by simp) fun a' sd' o' w1 w2 w3 => rest a' sd' o' w1 (by omega) w3
theorem wd_l1 {code : List UInt8} (s : L00Src) (hs : s.code = code) (kj : Int → Int → List Int → Option (List Int × L00Src)) (Q : List Int × L00Src → Prop) : ∀ (n N : Nat) (a sd hi : Int) (l : List Int), n < N → 0 ≤ a → a ≤ hi → hi + 2 * n ≤ 1000000 → l.length + n ≤ 20 →
    (∀ a' sd' l', 0 ≤ a' → a' ≤ hi + 2 * n → l'.length = l.length + n → ∃ r, kj a' sd' l' = some r ∧ Q r) → ∃ r, s_l08DrawWidths_l1 kj s N a sd l (n : Int) = some r ∧ Q r := by
  intro n
  induction n with
  | zero =>
    intro N a sd hi l hN h0 h1 h2 h3 k
    obtain ⟨N, rfl⟩ := pos_fuel hN
    have hz : ¬ ((0 : Nat) : Int) > 0 := by omega
    simp only [s_l08DrawWidths_l1, hz, decide_false, cond_false]
    exact k a sd l h0 (by omega) (by omega)
  | succ n ih =>
    intro N a sd hi l hN h0 h1 h2 h3 k
    obtain ⟨N, rfl⟩ := pos_fuel hN
    have hz : ((n + 1 : Nat) : Int) > 0 := by omega
    have e2 : w64 (((n + 1 : Nat) : Int) - 1) = (n : Int) := by rw [w64_id (by omega) (by omega)]; omega
    simp only [s_l08DrawWidths_l1, hz, decide_true, cond_true, e2]
    refine bindE (pickA (code := code) (hi := hi) 20 ⟨hs, h0, h1⟩ (by omega)) fun v g => ?_
    refine appE (by unfold LIM; simp; omega) ?_
    exact ih N _ _ (hi + 2) _ (by omega) g.1.2.1 g.1.2.2 (by omega) (by simp; omega) (fun a' sd' l' w1 w2 w3 => k a' sd' l' w1 (by omega) (by simp at w3; omega))
theorem dWidths {code : List UInt8} {s : L00Src} (h : SrcAt code 0 s) (N : Nat) (hN : 100 < N) : ∃ v, s_l08DrawWidths N s = some v ∧ SrcAt code 1000 v.2 ∧ v.1.length ≤ 20 := by
  obtain ⟨hc, h0, h1⟩ := h
  unfold s_l08DrawWidths
  simp only [withK_n]
  refine bindE (pickA (code := code) (hi := 0) 4 ⟨hc, h0, h1⟩ (by omega)) fun v g => ?_
  obtain ⟨p, hp⟩ := Int.eq_ofNat_of_zero_le g.2.1
  have gp := g.2.2 (by omega)
  rw [hp] at gp ⊢
  have e : w64 (1 + (p : Int)) = ((1 + p : Nat) : Int) := by rw [w64_id (by omega) (by omega)]; omega
  rw [e]
  refine wd_l1 (code := code) s hc _ _ (1 + p) N _ _ (0 + 2) [] (by omega) g.1.2.1 g.1.2.2 (by omega) (by simp; omega) fun a' sd' l' w1 w2 w3 => ?_
  simp only [List.length_nil, Nat.zero_add] at w3
  refine bindE (pickA (code := code) (hi := 100) 16 ⟨hc, w1, by show a' ≤ _; omega⟩ (by omega)) fun v2 g2 => ?_
  have fin : ∀ (l : List Int) (v3 : L00Src), SrcAt code 104 v3 → l.length ≤ 20 → ∃ r, some (l, L00Src.mk s.code v3.at_ v3.seed) = some r ∧ SrcAt code 1000 r.2 ∧ r.1.length ≤ 20 := fun l v3 h hl => ⟨_, rfl, ⟨hc, h.2.1, by have := h.2.2; show v3.at_ ≤ _; omega⟩, hl⟩
  refine condE (fun _ => bindE (amongA (code := code) (hi := 102) _ (by simp) ⟨hc, g2.1.2.1, g2.1.2.2⟩ (by omega)) fun v3 g3 => ?_) (fun _ => condE (fun _ => bindE (amongA (code := code) (hi := 102) [0, 12, 13] (by decide) ⟨hc, g2.1.2.1, g2.1.2.2⟩ (by omega)) fun v3 g3 => ?_) (fun _ => fin l' v2.2 (g2.1.mono (by omega)) (by omega)))
  · rw [show (0 : Int) = ((0 : Nat) : Int) from rfl, idx_lt l' 0 (by omega), Option.bind_some]
    exact fin _ v3.2 g3.1 (by rw [List.length_set]; omega)
  · have hm : ∃ k : Nat, v3.1 = (k : Int) ∧ k ≤ 13 := by
      have := g3.2
      simp only [List.mem_cons, List.not_mem_nil, or_false] at this
      rcases this with h | h | h
      · exact ⟨0, h, by omega⟩
      · exact ⟨12, h, by omega⟩
      · exact ⟨13, h, by omega⟩
    obtain ⟨k, hk1, hk2⟩ := hm
    rw [hk1, mk_some _ _ (by unfold LIM; omega), Option.bind_some]
    exact fin _ v3.2 g3.1 (by rw [List.length_replicate]; omega)
theorem dStops (code : List UInt8) (N : Nat) (hN : 400 < N) : ∃ v : List Int × Int × Int, s_DrawStopsFor N code = some v ∧ v.1.length ≤ 100 := by
  unfold s_DrawStopsFor
  rw [fromA, Option.bind_some]
  simp only [withK_n]
  refine bindE (dWidths (code := code) ⟨rfl, Int.le_refl _, Int.le_refl _⟩ N (by omega)) fun v g => ?_
  refine bindE (pickA (code := code) (hi := 1000) 20 ⟨rfl, g.1.2.1, g.1.2.2⟩ (by omega)) fun v2 g2 => ?_
  refine bindE (oneA (code := code) (hi := 1002) 10 ⟨rfl, g2.1.2.1, g2.1.2.2⟩ (by omega)) fun v3 g3 => ?_
  have rest : ∀ (a sd l : Int), 0 ≤ a → a ≤ 1100 → ∃ r, ((s_l00Src_one (L00Src.mk code a sd) 10).bind fun r23 =>
      bif r23.1 then
      (s_l00Src_among (L00Src.mk code r23.2.at_ r23.2.seed) [0, 1, 120, 121]).bind fun r27 => some (v.1, l, r27.1)
      else
      (s_l00Src_pick (L00Src.mk code r23.2.at_ r23.2.seed) 6).bind fun r29 => some (v.1, l, w64 (1 + r29.1))) = some r ∧ r.1.length ≤ 100 := by
    intro a sd l k0 k1
    refine bindE (oneA (code := code) (hi := 1100) 10 ⟨rfl, k0, k1⟩ (by omega)) fun v4 g4 => ?_
    exact condE (fun _ => bindE (amongA (code := code) (hi := 1102) _ (by simp) ⟨rfl, g4.2.1, g4.2.2⟩ (by omega)) fun v5 g5 => ⟨_, rfl, by show v.1.length ≤ 100; omega⟩) (fun _ => bindE (pickA (code := code) (hi := 1102) 6 ⟨rfl, g4.2.1, g4.2.2⟩ (by omega)) fun v5 g5 => ⟨_, rfl, by show v.1.length ≤ 100; omega⟩)
  refine condE (fun _ => bindE (amongA (code := code) (hi := 1004) _ (by simp) ⟨rfl, g3.2.1, g3.2.2⟩ (by omega)) fun v4 g4 => rest _ _ _ g4.1.2.1 (by have := g4.1.2.2; omega)) (fun _ => rest _ _ _ g3.2.1 (by have := g3.2.2; omega))
theorem dGap (code : List UInt8) (N : Nat) (hN : 400 < N) : ∃ v : List Int × Int × Int, s_DrawWidestGap N code = some v ∧ v.1.length ≤ 100 := by
  unfold s_DrawWidestGap
  rw [fromA, Option.bind_some]
  simp only [withK_n]
  refine bindE (dWidths (code := code) ⟨rfl, Int.le_refl _, Int.le_refl _⟩ N (by omega)) fun v g => ?_
  refine bindE (pickA (code := code) (hi := 1000) 20 ⟨rfl, g.1.2.1, g.1.2.2⟩ (by omega)) fun v2 g2 => ?_
  refine bindE (oneA (code := code) (hi := 1002) 10 ⟨rfl, g2.1.2.1, g2.1.2.2⟩ (by omega)) fun v3 g3 => ?_
  have rest : ∀ (a sd l : Int), 0 ≤ a → a ≤ 1100 → ∃ r, ((s_l00Src_one (L00Src.mk code a sd) 10).bind fun r23 =>
      bif r23.1 then
      (s_l00Src_among (L00Src.mk code r23.2.at_ r23.2.seed) [(-1), l, 120, 121]).bind fun r27 => some (v.1, l, r27.1)
      else
      (s_l00Src_pick (L00Src.mk code r23.2.at_ r23.2.seed) 80).bind fun r29 => some (v.1, l, w64 (l + r29.1))) = some r ∧ r.1.length ≤ 100 := by
    intro a sd l k0 k1
    refine bindE (oneA (code := code) (hi := 1100) 10 ⟨rfl, k0, k1⟩ (by omega)) fun v4 g4 => ?_
    exact condE (fun _ => bindE (amongA (code := code) (hi := 1102) _ (by simp) ⟨rfl, g4.2.1, g4.2.2⟩ (by omega)) fun v5 g5 => ⟨_, rfl, by show v.1.length ≤ 100; omega⟩) (fun _ => bindE (pickA (code := code) (hi := 1102) 80 ⟨rfl, g4.2.1, g4.2.2⟩ (by omega)) fun v5 g5 => ⟨_, rfl, by show v.1.length ≤ 100; omega⟩)
  refine condE (fun _ => bindE (amongA (code := code) (hi := 1004) _ (by simp) ⟨rfl, g3.2.1, g3.2.2⟩ (by omega)) fun v4 g4 => rest _ _ _ g4.1.2.1 (by have := g4.1.2.2; omega)) (fun _ => rest _ _ _ g3.2.1 (by have := g3.2.2; omega))
def L6 : List Str := [[48], [49, 50], [45, 51], [52, 46, 53, 48], [49, 48, 48, 46, 48, 53], [45, 48, 46, 53]]
theorem l6_16 : ∀ s ∈ L6, s ∈ L16 := by decide
theorem an_l1 {code : List UInt8} (kj : Int → Int → List Str → Option (List Str)) (Q : List Str → Prop) : ∀ (n N : Nat) (a sd hi : Int) (l : List Str), n < N → 0 ≤ a → a ≤ hi → hi + 2 * n ≤ 1000000 → l.length + n ≤ 60 → (∀ s ∈ l, s ∈ L16) →
    (∀ a' sd' l', 0 ≤ a' → a' ≤ hi + 2 * n → l'.length = l.length + n → (∀ s ∈ l', s ∈ L16) → ∃ r, kj a' sd' l' = some r ∧ Q r) → ∃ r, s_DrawAlignNumbers_l1 kj code N a sd l (n : Int) = some r ∧ Q r := by
  intro n
  induction n with
  | zero =>
    intro N a sd hi l hN h0 h1 h2 h3 h4 k
    obtain ⟨N, rfl⟩ := pos_fuel hN
    have hz : ¬ ((0 : Nat) : Int) > 0 := by omega
    simp only [s_DrawAlignNumbers_l1, hz, decide_false, cond_false]
    exact k a sd l h0 (by omega) (by omega) h4
  | succ n ih =>
    intro N a sd hi l hN h0 h1 h2 h3 h4 k
    obtain ⟨N, rfl⟩ := pos_fuel hN
    have hz : ((n + 1 : Nat) : Int) > 0 := by omega
    have e2 : w64 (((n + 1 : Nat) : Int) - 1) = (n : Int) := by rw [w64_id (by omega) (by omega)]; omega
    simp only [s_DrawAlignNumbers_l1, hz, decide_true, cond_true, e2]
    refine bindE (textA (code := code) (hi := hi) L6 (by decide) ⟨rfl, h0, h1⟩ (by omega)) fun v g => ?_
    refine appE (by unfold LIM; simp; omega) ?_
    refine ih N _ _ (hi + 2) _ (by omega) g.1.2.1 g.1.2.2 (by omega) (by simp; omega) (fun s hs => ?_) (fun a' sd' l' w1 w2 w3 w4 => k a' sd' l' w1 (by omega) (by simp at w3; omega) w4)
    rcases List.mem_append.1 hs with hs | hs
    · exact h4 s hs
    · rw [List.mem_singleton.1 hs]; exact l6_16 _ g.2
theorem number_ok {code : List UInt8} {hi : Int} {s : L00Src} (h : SrcAt code hi s) (hb : hi ≤ 1000000) : ∃ v, s_l08DrawNumber s = some v ∧ SrcAt code (hi + 2) v.2 ∧ v.1 ∈ L16 := by
  obtain ⟨hc, h0, h1⟩ := h
  unfold s_l08DrawNumber
  refine bindE (textA (code := code) (hi := hi) L16 (by decide) ⟨hc, h0, h1⟩ (by omega)) fun v g => ⟨_, rfl, ⟨hc, g.1.2.1, g.1.2.2⟩, g.2⟩
theorem dNumbers (code : List UInt8) (N : Nat) (hN : 400 < N) : ∃ v : List Str, s_DrawAlignNumbers N code = some v ∧ v.length ≤ 100 ∧ ∀ s ∈ v, s ∈ L16 := by
  unfold s_DrawAlignNumbers
  rw [fromA, Option.bind_some]
  simp only [withK_n]
  refine bindE (pickA (code := code) (hi := 0) 6 ⟨rfl, Int.le_refl _, Int.le_refl _⟩ (by omega)) fun v g => ?_
  refine bindE (oneA (code := code) (hi := 0 + 2) 20 ⟨rfl, g.1.2.1, g.1.2.2⟩ (by omega)) fun v2 g2 => ?_
  obtain ⟨p, hp⟩ := Int.eq_ofNat_of_zero_le g.2.1
  have gp := g.2.2 (by omega)
  rw [hp] at gp ⊢
  have rest : ∀ (a sd : Int) (n : Nat), 0 ≤ a → a ≤ 100 → n ≤ 50 → ∃ r, s_DrawAlignNumbers_l1 (fun (x20 : Int) (x21 : Int) (l22 : List Str) =>
      (bif decide ((n : Int) > 0) then (s_l00Src_one (L00Src.mk code x20 x21) 4).bind fun r46 =>
      some (r46.1, (L00Src.mk code r46.2.at_ r46.2.seed)) else some (false, (L00Src.mk code x20 x21))).bind fun x44 =>
      bif x44.1 then
      (s_l08DrawNumber (L00Src.mk code x44.2.at_ x44.2.seed)).bind fun r49 =>
      (idx l22 0).bind fun e51 =>
      some (List.set l22 (Int.toNat 0) r49.1)
      else
      some l22) code N a sd [] (n : Int) = some r ∧ r.length ≤ 100 ∧ ∀ s ∈ r, s ∈ L16 := by
    intro a sd n k0 k1 k2
    refine an_l1 (code := code) _ _ n N a sd 100 [] (by omega) k0 k1 (by omega) (by simp; omega) (fun s hs => by cases hs) fun a' sd' l' w1 w2 w3 w4 => ?_
    simp only [List.length_nil, Nat.zero_add] at w3
    refine bindE (P := fun x => SrcAt code 1000 x.2 ∧ (x.1 = true → 0 < n)) (condE (fun hp => bindE (oneA (code := code) (hi := 900) 4 ⟨rfl, w1, by show a' ≤ _; omega⟩ (by omega)) fun v3 g3 => ⟨_, rfl, ⟨rfl, g3.2.1, by have := g3.2.2; show v3.2.at_ ≤ _; omega⟩, fun _ => by have := of_decide_eq_true hp; omega⟩) (fun _ => ⟨_, rfl, ⟨rfl, w1, by show a' ≤ _; omega⟩, fun h => by cases h⟩)) fun x gx => ?_
    refine condE (fun hx => bindE (number_ok (code := code) (hi := 1000) (s := L00Src.mk code x.2.at_ x.2.seed) ⟨rfl, gx.1.2.1, gx.1.2.2⟩ (by omega)) fun v3 g3 => ?_) (fun _ => ⟨_, rfl, by omega, w4⟩)
    have := gx.2 hx
    rw [show (0 : Int) = ((0 : Nat) : Int) from rfl, idx_lt l' 0 (by omega), Option.bind_some]
    refine ⟨_, rfl, by rw [List.length_set]; omega, fun s hs => ?_⟩
    rcases List.mem_or_eq_of_mem_set hs with hs | hs
    · exact w4 s hs
    · rw [hs]; exact g3.2
  refine condE (fun _ => bindE (pickA (code := code) (hi := 4) 2 ⟨rfl, g2.2.1, by have := g2.2.2; show v2.2.at_ ≤ _; omega⟩ (by omega)) fun v3 g3 => ?_) (fun _ => rest _ _ p g2.2.1 (by have := g2.2.2; omega) (by omega))
  obtain ⟨p3, hp3⟩ := Int.eq_ofNat_of_zero_le g3.2.1
  have gp3 := g3.2.2 (by omega)
  rw [hp3] at gp3 ⊢
  have e : w64 (40 + (p3 : Int)) = ((40 + p3 : Nat) : Int) := by rw [w64_id (by omega) (by omega)]; omega
  rw [e]
  exact rest _ _ (40 + p3) g3.1.2.1 (by have := g3.1.2.2; omega) (by omega)
theorem dStart (code : List UInt8) : ∃ v : Str × Int, s_DrawDecimalStart code = some v ∧ v.1 ∈ L16 := by
  unfold s_DrawDecimalStart
  rw [fromA, Option.bind_some]
  refine bindE (number_ok (code := code) (hi := 0) ⟨rfl, Int.le_refl _, Int.le_refl _⟩ (by omega)) fun v g => ?_
  refine bindE (oneA (code := code) (hi := 0 + 2) 10 ⟨rfl, g.1.2.1, g.1.2.2⟩ (by omega)) fun v2 g2 => ?_
  exact condE (fun _ => bindE (amongA (code := code) (hi := 0 + 2 + 2) _ (by simp) ⟨rfl, g2.2.1, g2.2.2⟩ (by omega)) fun v3 g3 => ⟨_, rfl, g.2⟩) (fun _ => bindE (pickA (code := code) (hi := 0 + 2 + 2) 20 ⟨rfl, g2.2.1, g2.2.2⟩ (by omega)) fun v3 g3 => ⟨_, rfl, g.2⟩)
/-! what the law looks at -/
theorem w_l1 (r23 : List Int × Int × Int) (r29 : List Int × Int) (left : Int) (h : r29.1 = stL r23.2.2 left r23.1) (hl : r23.1.length ≤ 12) (hw : ∀ w ∈ r23.1, 0 ≤ w ∧ w ≤ 120) (hg : 0 ≤ r23.2.2 ∧ r23.2.2 ≤ 120) (hb : ∀ x ∈ stL r23.2.2 left r23.1, 0 ≤ x ∧ x ≤ 5000) (kj : Option Bool) : ∀ (q i N : Nat), i + 1 + q = r23.1.length → q < N → w_FnTableColumns_l1 kj r23 r29 N ((i + 1 : Nat) : Int) = kj := by
  have hlen := stL_len r23.2.2 r23.1 left
  intro q
  induction q with
  | zero =>
    intro i N h1 h2
    obtain ⟨N, rfl⟩ := pos_fuel h2
    have hz : ¬ ((i + 1 : Nat) : Int) < (r29.1.length : Int) := by rw [h, hlen]; omega
    simp only [w_FnTableColumns_l1, hz, decide_false, cond_false]
  | succ q ih =>
    intro i N h1 h2
    obtain ⟨N, rfl⟩ := pos_fuel h2
    have hz : ((i + 1 : Nat) : Int) < (r29.1.length : Int) := by rw [h, hlen]; omega
    have e0 : w64 (((i + 1 : Nat) : Int) - 1) = (i : Int) := by rw [w64_id (by omega) (by omega)]; omega
    have a1 : i + 1 < (stL r23.2.2 left r23.1).length := by omega
    have a2 : i < (stL r23.2.2 left r23.1).length := by omega
    have e1 : idx r29.1 ((i + 1 : Nat) : Int) = some (stL r23.2.2 left r23.1)[i + 1] := by rw [h]; exact idx_lt _ _ a1
    have e2 : idx r29.1 (i : Int) = some (stL r23.2.2 left r23.1)[i] := by rw [h]; exact idx_lt _ _ a2
    have e3 : idx r23.1 (i : Int) = some (r23.1[i]'(by omega)) := idx_lt _ _ (by omega)
    have hs := stL_step r23.2.2 r23.1 left i (by omega)
    have b1 := hb _ (List.getElem_mem a1)
    have b2 := hb _ (List.getElem_mem a2)
    have b3 := hw _ (List.getElem_mem (show i < r23.1.length by omega))
    have f1 : w64 ((stL r23.2.2 left r23.1)[i + 1] - (stL r23.2.2 left r23.1)[i]) = r23.1[i]'(by omega) + r23.2.2 := by rw [w64_id (by omega) (by omega)]; exact hs
    have f2 : w64 (r23.1[i]'(by omega) + r23.2.2) = r23.1[i]'(by omega) + r23.2.2 := w64_id (by omega) (by omega)
    have f3 : (r23.1[i]'(by omega) + r23.2.2 != r23.1[i]'(by omega) + r23.2.2) = false := by simp
    simp only [w_FnTableColumns_l1, hz, decide_true, cond_true, e0, e1, e2, e3, Option.bind_some, f1, f2, f3, cond_false]
    rw [w64_nat (i + 1) (by omega)]
    exact ih (i + 1) N (by omega) (by omega)
theorem w_l2 (r45 : List Str × Int) (hl : r45.1.length ≤ 100) (most : Int) (h : ∀ s ∈ r45.1, s.length ≤ 200 ∧ (dpt s : Int) = most) (kj : Option Bool) : ∀ (q i N : Nat), i + q = r45.1.length → q + 1200 < N → w_FnTableColumns_l2 kj r45 N (i : Int) = kj := by
  intro q
  induction q with
  | zero =>
    intro i N h1 h2
    obtain ⟨N, rfl⟩ := pos_fuel h2
    have hz : ¬ (i : Int) < (r45.1.length : Int) := by omega
    simp only [w_FnTableColumns_l2, hz, decide_false, cond_false]
  | succ q ih =>
    intro i N h1 h2
    obtain ⟨N, rfl⟩ := pos_fuel h2
    have hz : (i : Int) < (r45.1.length : Int) := by omega
    have hi : i < r45.1.length := by omega
    have h0 : idx r45.1 0 = some (r45.1[0]'(by omega)) := idx_lt r45.1 0 (by omega)
    have g1 := h _ (List.getElem_mem hi)
    have g2 := h _ (List.getElem_mem (show 0 < r45.1.length by omega))
    have k1 := (point_ok r45.1[i] (by omega) N (by omega)).2
    have k2 := (point_ok (r45.1[0]'(by omega)) (by omega) N (by omega)).2
    rw [g1.2] at k1
    rw [g2.2] at k2
    have f3 : (most != most) = false := by simp
    simp only [w_FnTableColumns_l2, hz, decide_true, cond_true, idx_lt r45.1 i hi, h0, Option.bind_some, k1, k2, f3, cond_false, w64_nat i (by omega)]
    exact ih (i + 1) N (by omega) (by omega)
theorem bnd_sum {ws : List Int} (h : Bnd ws) : 0 ≤ isum ws ∧ isum ws ≤ 120 * ws.length := isum_bd ws (fun w hw => by have := h w hw; omega)
theorem w_l3 (r7 : List (List Str) × Str × Int) (r14 : List Str × Int) (r20 : List Int × Int) (hl : r14.1.length ≤ 50) (hg : 0 ≤ r7.2.2 ∧ r7.2.2 ≤ 20) (hw : r20.1.length ≤ 20) (hw1 : 1 ≤ r20.1.length) (hb : Bnd r20.1) (h : ∀ l ∈ r14.1, (l.length : Int) = isum r20.1 + r7.2.2 * ((r20.1.length : Int) - 1)) (kj : Option Bool) : ∀ (q i N : Nat), i + q = r14.1.length → q + 300 < N → w_FnTableColumns_l3 kj r7 r14 r20 N (i : Int) = kj := by
  have hs := bnd_sum hb
  have hprod : 0 ≤ r7.2.2 * ((r20.1.length : Int) - 1) ∧ r7.2.2 * ((r20.1.length : Int) - 1) ≤ 20 * 20 :=
    ⟨Int.mul_nonneg hg.1 (by omega), Int.mul_le_mul hg.2 (by omega) (by omega) (by omega)⟩
  intro q
  induction q with
  | zero =>
    intro i N h1 h2
    obtain ⟨N, rfl⟩ := pos_fuel h2
    have hz : ¬ (i : Int) < (r14.1.length : Int) := by omega
    simp only [w_FnTableColumns_l3, hz, decide_false, cond_false]
  | succ q ih =>
    intro i N h1 h2
    obtain ⟨N, rfl⟩ := pos_fuel h2
    have hz : (i : Int) < (r14.1.length : Int) := by omega
    have hi : i < r14.1.length := by omega
    have hL := h _ (List.getElem_mem hi)
    have e1 : w64 ((r20.1.length : Int) - 1) = (r20.1.length : Int) - 1 := w64_id (by omega) (by omega)
    have e2 : w64 (r7.2.2 * ((r20.1.length : Int) - 1)) = r7.2.2 * ((r20.1.length : Int) - 1) := w64_id (by omega) (by omega)
    have e3 : w64 (isum r20.1 + r7.2.2 * ((r20.1.length : Int) - 1)) = isum r20.1 + r7.2.2 * ((r20.1.length : Int) - 1) := w64_id (by omega) (by omega)
    have f3 : (isum r20.1 + r7.2.2 * ((r20.1.length : Int) - 1) != isum r20.1 + r7.2.2 * ((r20.1.length : Int) - 1)) = false := by simp
    have hsm := sum_ok r20.1 (by omega) (fun v hv => by have := hb v hv; omega) N (by omega)
    simp only [w_FnTableColumns_l3, hz, decide_true, cond_true, idx_lt r14.1 i hi, hsm, Option.bind_some, e1, e2, e3, hL, f3, cond_false, w64_nat i (by omega)]
    exact ih (i + 1) N (by omega) (by omega)
theorem law_FnTableColumns (code : List UInt8) (hlen : wfL wfByte code) : ∃ N, w_FnTableColumns N code = some true := by
  have _ := hlen
  refine ⟨20000, ?_⟩
  suffices h : ∀ N, 19000 < N → w_FnTableColumns N code = some true from h 20000 (by omega)
  intro N hN
  unfold w_FnTableColumns w_f6big
  rw [Option.bind_some]
  cases decide ((code.length : Int) > 4096) with
  | true => rfl
  | false =>
    rw [cond_false]
    obtain ⟨r7, d1, d2, d3, d4, d5⟩ := dLines code N (by omega)
    obtain ⟨r23, e1, e2⟩ := dStops code N (by omega)
    obtain ⟨r32, f1, f2⟩ := dGap code N (by omega)
    obtain ⟨r39, g1, g2, g3⟩ := dNumbers code N (by omega)
    obtain ⟨r48, h1, h2⟩ := dStart code
    obtain ⟨v, a1, a2, a3, w, b1, b2, b3, b4⟩ := lines_ok r7.1 d2 r7.2.1 d3 r7.2.2 ⟨d4, d5⟩ N (by omega)
    obtain ⟨s, s1, s2, s3, s4⟩ := stops_ok r23.1 e2 r23.2.1 r23.2.2 N (by omega)
    obtain ⟨p, p1, p2, p3⟩ := gap_ok r32.1 f2 r32.2.1 r32.2.2 N (by omega)
    obtain ⟨q, q1, q2, q3, q4⟩ := align_ok r39 g2 g3 N (by omega)
    obtain ⟨t, t1, t2⟩ := start_ok r48.1 h2 r48.2 N (by omega)
    have i1 := f6texts_eq (N := N) v.1 (by unfold LIM; omega) (by omega)
    have i2 := f6texts_eq (N := N) q.1 (by unfold LIM; omega) (by omega)
    have i3 := ints_ok w.1 (by omega) N (by omega)
    have i4 := ints_ok s.1 s3 N (by omega)
    have bn : ∀ x : Int, (x != x) = false := fun x => by simp
    simp only [d1, a1, a2, b1, b2, e1, s1, s2, f1, p1, p2, g1, q1, q2, h1, t1, t2, i1, i2, i3, i4, Option.bind_some, bn, orO_some, Bool.not_true, Bool.or_self, cond_false, withK_n]
    have k3 : (bif (v.2 != 0) then some true else w_FnTableColumns_l3 (some ((v.1.length : Int) == (r7.1.length : Int))) r7 v w N 0) = some true := by
      cases hv : (v.2 != 0) with
      | true => rfl
      | false =>
        have hv0 : v.2 = 0 := by simpa using hv
        obtain ⟨c1, c2, c3, c4, c5, c6⟩ := b4 hv0
        rw [cond_false, show (0 : Int) = ((0 : Nat) : Int) from rfl, w_l3 r7 v w a3 ⟨c1, c2⟩ b3 c4 c5 c6 _ v.1.length 0 N (by omega) (by omega), c3]
        simp
    rw [k3]
    have k2 : (bif (q.2 == 0) then w_FnTableColumns_l2 (some true) q N 0 else some true) = some true := by
      cases hq : (q.2 == 0) with
      | false => rfl
      | true =>
        obtain ⟨most, hm⟩ := q4 (by simpa using hq)
        rw [cond_true, show (0 : Int) = ((0 : Nat) : Int) from rfl]
        exact w_l2 q q3 most hm _ q.1.length 0 N (by omega) (by omega)
    rw [k2]
    have k1 : (bif (s.2 == 0) then w_FnTableColumns_l1 (some true) r23 s N 1 else some true) = some true := by
      cases hs : (s.2 == 0) with
      | false => rfl
      | true =>
        obtain ⟨c1, c2, c3, c4, c5, c6⟩ := s4 (by simpa using hs)
        rw [cond_true]
        cases hl : r23.1.length with
        | zero =>
          obtain ⟨N, rfl⟩ := pos_fuel hN
          have hz : ¬ (1 : Int) < (s.1.length : Int) := by rw [c1, stL_len, hl]; simp
          simp only [w_FnTableColumns_l1, hz, decide_false, cond_false]
        | succ n =>
          exact w_l1 r23 s r23.2.1 c1 c2 c3 ⟨c4, c5⟩ c6 _ n 0 N (by omega) (by omega)
    cases hp : (p.2 == 0) with
    | false => rw [cond_false]; exact k1
    | true =>
      obtain ⟨c1, c2, c3, c4, c5, c6, c7, c8, c9, c10⟩ := p3 (by simpa using hp)
      have hs := isum_bd r32.1 c3
      have hsm := sum_ok r32.1 (by omega) (fun x hx => by have := c3 x hx; omega) N (by omega)
      have e1 : w64 ((r32.1.length : Int) - 1) = (r32.1.length : Int) - 1 := w64_id (by omega) (by omega)
      have e2 : w64 (r32.2.2 - r32.2.1) = r32.2.2 - r32.2.1 := w64_id (by omega) (by omega)
      have e5 : w64 (p.1 + 1) = p.1 + 1 := w64_id (by omega) (by omega)
      have hnn : 0 ≤ ((r32.1.length : Int) - 1) * p.1 := Int.mul_nonneg (by omega) (by omega)
      have e3 : w64 (((r32.1.length : Int) - 1) * p.1) = ((r32.1.length : Int) - 1) * p.1 := w64_id (by omega) (by omega)
      have e6 : ((r32.1.length : Int) - 1) * (p.1 + 1) = ((r32.1.length : Int) - 1) * p.1 + ((r32.1.length : Int) - 1) := by rw [Int.mul_add, Int.mul_one]
      have e4 : w64 (((r32.1.length : Int) - 1) * (p.1 + 1)) = ((r32.1.length : Int) - 1) * p.1 + ((r32.1.length : Int) - 1) := by rw [e6, w64_id (by omega) (by omega)]
      have z1 : decide (w64 (isum r32.1 + ((r32.1.length : Int) - 1) * p.1) > r32.2.2 - r32.2.1) = false := by rw [w64_id (by omega) (by omega)]; exact decide_eq_false (by omega)
      have z2 : decide (w64 (isum r32.1 + (((r32.1.length : Int) - 1) * p.1 + ((r32.1.length : Int) - 1))) ≤ r32.2.2 - r32.2.1) = false := by rw [w64_id (by omega) (by omega)]; exact decide_eq_false (by omega)
      have z3 : decide (p.1 < 1) = false := decide_eq_false (by omega)
      simp only [cond_true, hsm, Option.bind_some, e1, e2, e3, e4, e5, z1, z2, z3, orO_some, Bool.or_self, cond_false]
      exact k1
end Go.Proofs.Ytpmanofdlhlkdaa
