/-
  Plain lemmas on these functions. No conditions but those that each states.
-/
import Derived.Test.YtoojddajhalimaaFnShadesP7
namespace Go.Proofs.Ytoojddajhalimaa
set_option linter.unusedVariables false
set_option linter.unusedSimpArgs false
theorem Draw_ok (code : List UInt8) (at_ seed : Int) (h0 : 0 ≤ at_) (h1 : at_ ≤ 1000000) : ∃ v a sd, s_l14Draw ⟨code, at_, seed⟩ = some (v, ⟨code, a, sd⟩) ∧ at_ ≤ a ∧ a ≤ at_ + 6 := by
  have hb : BIG = 1152921504606846976 := rfl
  obtain ⟨v1, a1, s1, e1, b1, c1, _⟩ := pick_ok code at_ seed 20 h0 (by omega)
  obtain ⟨v2, a2, s2, e2, b2, c2, _⟩ := pick_ok code a1 s1 80 (by omega) (by omega)
  obtain ⟨v3, a3, s3, e3, b3, c3, _⟩ := pick_ok code a2 s2 15 (by omega) (by omega)
  simp only [s_l14Draw, e1, e2, e3, Option.bind_some]
  exact ⟨_, _, _, rfl, by omega, by omega⟩
theorem Bent_ok (code : List UInt8) (at_ seed : Int) (h0 : 0 ≤ at_) (h1 : at_ ≤ 1000000) : ∃ v a sd, s_l14Bent ⟨code, at_, seed⟩ = some (v, ⟨code, a, sd⟩) ∧ at_ ≤ a ∧ a ≤ at_ + 10 := by
  have hb : BIG = 1152921504606846976 := rfl
  obtain ⟨v1, a1, s1, e1, b1, c1⟩ := Draw_ok code at_ seed h0 h1
  obtain ⟨v2, a2, s2, e2, b2, c2, _⟩ := pick_ok code a1 s1 24 (by omega) (by omega)
  simp only [s_l14Bent, e1, e2, Option.bind_some, withK_eq]
  cases (v2 == 0)
  · cases (v2 == 1)
    · cases (v2 == 2)
      · exact ⟨_, _, _, rfl, by omega, by omega⟩
      · obtain ⟨v3, a3, s3, e3, b3, c3⟩ := among_ok code a2 s2 [0, 1, v1.ink, w64 (v1.ink + 1)] (by simp) (by omega) (by omega)
        simp only [cond_true, cond_false, e3, Option.bind_some]
        exact ⟨_, _, _, rfl, by omega, by omega⟩
    · obtain ⟨v3, a3, s3, e3, b3, c3⟩ := among_ok code a2 s2 [0, v1.takes, 1000, 1001] (by simp) (by omega) (by omega)
      simp only [cond_true, cond_false, e3, Option.bind_some]
      exact ⟨_, _, _, rfl, by omega, by omega⟩
  · obtain ⟨v3, a3, s3, e3, b3, c3⟩ := among_ok code a2 s2 [1, 2, 200, 201, (-9223372036854775808)] (by simp) (by omega) (by omega)
    simp only [cond_true, e3, Option.bind_some]
    exact ⟨_, _, _, rfl, by omega, by omega⟩
theorem Strokes_ok (code : List UInt8) (at_ seed : Int) (h0 : 0 ≤ at_) (h1 : at_ ≤ 1000000) : ∃ v a sd, s_l14Strokes ⟨code, at_, seed⟩ = some (v, ⟨code, a, sd⟩) ∧ at_ ≤ a ∧ a ≤ at_ + 4 := by
  have hb : BIG = 1152921504606846976 := rfl
  obtain ⟨v1, a1, s1, e1, b1, c1⟩ := one_ok code at_ seed 10 h0 (by omega)
  simp only [s_l14Strokes, e1, Option.bind_some]
  cases v1
  · obtain ⟨v2, a2, s2, e2, b2, c2, _⟩ := pick_ok code a1 s1 200 (by omega) (by omega)
    simp only [cond_false, e2, Option.bind_some]
    exact ⟨_, _, _, rfl, by omega, by omega⟩
  · obtain ⟨v2, a2, s2, e2, b2, c2⟩ := among_ok code a1 s1 [(-1), 0, 100000, 100001, 9223372036854775807] (by simp) (by omega) (by omega)
    simp only [cond_true, e2, Option.bind_some]
    exact ⟨_, _, _, rfl, by omega, by omega⟩
theorem DLeast_ok (code : List UInt8) (at_ seed : Int) (r : Ribbon) (h0 : 0 ≤ at_) (h1 : at_ ≤ 1000000) : ∃ v a sd, s_l14DrawLeast ⟨code, at_, seed⟩ r = some (v, ⟨code, a, sd⟩) ∧ at_ ≤ a ∧ a ≤ at_ + 4 := by
  have hb : BIG = 1152921504606846976 := rfl
  obtain ⟨v1, a1, s1, e1, b1, c1⟩ := one_ok code at_ seed 8 h0 (by omega)
  simp only [s_l14DrawLeast, e1, Option.bind_some]
  cases v1
  · obtain ⟨v2, a2, s2, e2, b2, c2, _⟩ := pick_ok code a1 s1 40 (by omega) (by omega)
    simp only [cond_false, e2, Option.bind_some]
    exact ⟨_, _, _, rfl, by omega, by omega⟩
  · obtain ⟨v2, a2, s2, e2, b2, c2⟩ := among_ok code a1 s1 [(-1), 0, 1, r.ink, w64 (r.ink + 1)] (by simp) (by omega) (by omega)
    simp only [cond_true, e2, Option.bind_some]
    exact ⟨_, _, _, rfl, by omega, by omega⟩
theorem DText_l1 (code : List UInt8) (x : Int) (y : Int) (kj : Int → Int → List UInt8 → Option (Str × L00Src)) : ∀ (n N : Nat) (at_ sd : Int) (acc : List UInt8), n < N → n ≤ 2000 → 0 ≤ at_ → at_ ≤ 1000000 - 2 * n → acc.length + n ≤ 5000 →
    ∃ a' sd' acc', s_l14DrawText_l1 kj ⟨code, x, y⟩ N at_ sd acc (n : Int) = kj a' sd' acc' ∧ acc'.length = acc.length + n ∧ at_ ≤ a' ∧ a' ≤ at_ + 2 * n := by
  have hb : BIG = 1152921504606846976 := rfl
  intro n
  induction n with
  | zero =>
    intro N at_ sd acc hN _ _ _ _
    obtain ⟨N, rfl⟩ := pos_fuel hN
    exact ⟨at_, sd, acc, by simp [s_l14DrawText_l1], by simp, by omega, by omega⟩
  | succ n ih =>
    intro N at_ sd acc hN h2 h3 h4 h5
    obtain ⟨N, rfl⟩ := pos_fuel hN
    have hi : ((n + 1 : Nat) : Int) > 0 := by omega
    obtain ⟨v1, a1, s1, e1, b1, c1, d1, d2⟩ := pick_ok code at_ sd 4 h3 (by omega)
    have e2 : w64 (((n + 1 : Nat) : Int) - 1) = (n : Int) := by rw [w64_id (by omega) (by omega)]; omega
    obtain ⟨a', sd', acc', g1, g2, g3, g4⟩ := ih N a1 s1 (acc ++ [([97, 98, 32, 99] : List UInt8)[v1.toNat]'(by simp; omega)]) (by omega) (by omega) (by omega) (by omega) (by simp; omega)
    refine ⟨a', sd', acc', ?_, by rw [g2]; simp; omega, by omega, by omega⟩
    simp only [s_l14DrawText_l1, hi, decide_true, cond_true, e1, Option.bind_some, idx_int ([97, 98, 32, 99] : List UInt8) v1 d1 (by simp; omega), e2]
    rw [app_some _ _ (by unfold LIM; simp; omega), Option.bind_some]
    exact g1
theorem DText_ok (N : Nat) (code : List UInt8) (at_ seed : Int) (h0 : 0 ≤ at_) (h1 : at_ ≤ 10000) (hN : 2000 < N) : ∃ v a sd, s_l14DrawText N ⟨code, at_, seed⟩ = some (v, ⟨code, a, sd⟩) ∧ v.length ≤ 1000 ∧ at_ ≤ a ∧ a ≤ at_ + 1000 := by
  have hb : BIG = 1152921504606846976 := rfl
  obtain ⟨v1, a1, s1, e1, b1, c1, d1, d2⟩ := pick_ok code at_ seed 12 h0 (by omega)
  obtain ⟨v2, a2, s2, e2, b2, c2⟩ := one_ok code a1 s1 20 (by omega) (by omega)
  simp only [s_l14DrawText, e1, e2, Option.bind_some, withK_eq]
  have key : ∀ (a3 s3 : Int) (n : Nat), n ≤ 101 → a2 ≤ a3 → a3 ≤ a2 + 2 → ∃ v a sd, s_l14DrawText_l1 (fun x18 x19 l20 => (bif decide ((n : Int) > 0) then (s_l00Src_one ⟨code, x18, x19⟩ 20).bind fun r47 => some (r47.1, L00Src.mk code r47.2.at_ r47.2.seed) else some (false, L00Src.mk code x18 x19)).bind fun x45 => bif x45.1 then (idx l20 0).bind fun e50 => some (List.set l20 (Int.toNat 0) 127, L00Src.mk code x45.2.at_ x45.2.seed) else some (l20, L00Src.mk code x45.2.at_ x45.2.seed)) ⟨code, at_, seed⟩ N a3 s3 [] (n : Int) = some (v, ⟨code, a, sd⟩) ∧ v.length ≤ 1000 ∧ at_ ≤ a ∧ a ≤ at_ + 1000 := by
    intro a3 s3 n hn ha hb2
    obtain ⟨a', sd', acc', g1, g2, g3, g4⟩ := DText_l1 code at_ seed _ n N a3 s3 [] (by omega) (by omega) (by omega) (by omega) (by simp; omega)
    rw [g1]
    simp only [List.length_nil, Nat.zero_add] at g2
    by_cases c : (n : Int) > 0
    · obtain ⟨v5, a5, s5, e5, b5, c5⟩ := one_ok code a' sd' 20 (by omega) (by omega)
      simp only [c, decide_true, cond_true, e5, Option.bind_some]
      cases v5
      · exact ⟨acc', a5, s5, rfl, by omega, by omega, by omega⟩
      · have : idx acc' 0 = some (acc'[0]'(by omega)) := idx_int acc' 0 (by omega) (by omega)
        simp only [cond_true, this, Option.bind_some]
        exact ⟨_, a5, s5, rfl, by rw [List.length_set]; omega, by omega, by omega⟩
    · simp only [c, decide_false, cond_false, Option.bind_some]
      exact ⟨acc', a', sd', rfl, by omega, by omega, by omega⟩
  cases v2
  · have := key a2 s2 v1.toNat (by omega) (by omega) (by omega)
    rw [show ((v1.toNat : Nat) : Int) = v1 by omega] at this
    exact this
  · obtain ⟨v3, a3, s3, e3, b3, c3, d3, d4⟩ := pick_ok code a2 s2 2 (by omega) (by omega)
    simp only [cond_true, e3, Option.bind_some]
    have := key a3 s3 (100 + v3).toNat (by omega) (by omega) (by omega)
    rw [show (((100 + v3).toNat : Nat) : Int) = w64 (100 + v3) by rw [w64_id (by omega) (by omega)]; omega] at this
    exact this
theorem DCol_l1 (code : List UInt8) (kj : Int → Int → List UInt8 → Option Str) : ∀ (n N : Nat) (at_ sd : Int) (acc : List UInt8), n < N → n ≤ 2000 → 0 ≤ at_ → at_ ≤ 1000000 - 2 * n → acc.length + n ≤ 5000 →
    ∃ a' sd' acc', s_DrawColourRuns_l1 kj code N at_ sd acc (n : Int) = kj a' sd' acc' ∧ acc'.length = acc.length + n ∧ at_ ≤ a' ∧ a' ≤ at_ + 2 * n := by
  have hb : BIG = 1152921504606846976 := rfl
  intro n
  induction n with
  | zero =>
    intro N at_ sd acc hN _ _ _ _
    obtain ⟨N, rfl⟩ := pos_fuel hN
    exact ⟨at_, sd, acc, by simp [s_DrawColourRuns_l1], by simp, by omega, by omega⟩
  | succ n ih =>
    intro N at_ sd acc hN h2 h3 h4 h5
    obtain ⟨N, rfl⟩ := pos_fuel hN
    have hi : ((n + 1 : Nat) : Int) > 0 := by omega
    obtain ⟨v1, a1, s1, e1, b1, c1, d1, d2⟩ := pick_ok code at_ sd 4 h3 (by omega)
    have e2 : w64 (((n + 1 : Nat) : Int) - 1) = (n : Int) := by rw [w64_id (by omega) (by omega)]; omega
    obtain ⟨a', sd', acc', g1, g2, g3, g4⟩ := ih N a1 s1 (acc ++ [([98, 98, 114, 32] : List UInt8)[v1.toNat]'(by simp; omega)]) (by omega) (by omega) (by omega) (by omega) (by simp; omega)
    refine ⟨a', sd', acc', ?_, by rw [g2]; simp; omega, by omega, by omega⟩
    simp only [s_DrawColourRuns_l1, hi, decide_true, cond_true, e1, Option.bind_some, idx_int ([98, 98, 114, 32] : List UInt8) v1 d1 (by simp; omega), e2]
    rw [app_some _ _ (by unfold LIM; simp; omega), Option.bind_some]
    exact g1
theorem DCol_ok (N : Nat) (code : List UInt8) (hN : 5000 < N) : ∃ v, s_DrawColourRuns N code = some v ∧ v.length ≤ 5000 := by
  have hb : BIG = 1152921504606846976 := rfl
  have e0 : s_l00From code = some ⟨code, 0, 0⟩ := rfl
  obtain ⟨v1, a1, s1, e1, b1, c1, d1, d2⟩ := pick_ok code 0 0 20 (by omega) (by omega)
  obtain ⟨v2, a2, s2, e2, b2, c2⟩ := one_ok code a1 s1 20 (by omega) (by omega)
  simp only [s_DrawColourRuns, e0, e1, e2, Option.bind_some, withK_eq]
  have key : ∀ (a3 s3 : Int) (n : Nat), n ≤ 1001 → 0 ≤ a3 → a3 ≤ 10 → ∃ v, s_DrawColourRuns_l1 (fun x20 x21 l22 => (bif decide ((n : Int) > 0) then (s_l00Src_one ⟨code, x20, x21⟩ 16).bind fun r47 => some (r47.1, L00Src.mk code r47.2.at_ r47.2.seed) else some (false, L00Src.mk code x20 x21)).bind fun x45 => bif x45.1 then (idx l22 0).bind fun e50 => some (List.set l22 (Int.toNat 0) 103) else some l22) code N a3 s3 [] (n : Int) = some v ∧ v.length ≤ 5000 := by
    intro a3 s3 n hn ha hb2
    obtain ⟨a', sd', acc', g1, g2, g3, g4⟩ := DCol_l1 code _ n N a3 s3 [] (by omega) (by omega) (by omega) (by omega) (by simp; omega)
    rw [g1]
    simp only [List.length_nil, Nat.zero_add] at g2
    by_cases c : (n : Int) > 0
    · obtain ⟨v5, a5, s5, e5, b5, c5⟩ := one_ok code a' sd' 16 (by omega) (by omega)
      simp only [c, decide_true, cond_true, e5, Option.bind_some]
      cases v5
      · exact ⟨acc', rfl, by omega⟩
      · have : idx acc' 0 = some (acc'[0]'(by omega)) := idx_int acc' 0 (by omega) (by omega)
        simp only [cond_true, this, Option.bind_some]
        exact ⟨_, rfl, by rw [List.length_set]; omega⟩
    · simp only [c, decide_false, cond_false, Option.bind_some]
      exact ⟨acc', rfl, by omega⟩
  cases v2
  · have := key a2 s2 v1.toNat (by omega) (by omega) (by omega)
    rw [show ((v1.toNat : Nat) : Int) = v1 by omega] at this
    exact this
  · obtain ⟨v3, a3, s3, e3, b3, c3, d3, d4⟩ := pick_ok code a2 s2 2 (by omega) (by omega)
    simp only [cond_true, e3, Option.bind_some]
    have := key a3 s3 (1000 + v3).toNat (by omega) (by omega) (by omega)
    rw [show (((1000 + v3).toNat : Nat) : Int) = w64 (1000 + v3) by rw [w64_id (by omega) (by omega)]; omega] at this
    exact this
theorem DBest_l1 (code : List UInt8) (kj : Int → Int → List Int → List Ribbon → Option (List Ribbon × List Int × Int × Int)) : ∀ (n N : Nat) (at_ sd : Int) (acc : List Int) (acc2 : List Ribbon), n < N → n ≤ 100 → 0 ≤ at_ → at_ ≤ 100000 - 8 * n → acc.length + n ≤ 100 → acc2.length = acc.length →
    ∃ a' sd' acc' acc2', s_DrawBestRibbon_l1 kj code N at_ sd acc acc2 (n : Int) = kj a' sd' acc' acc2' ∧ acc'.length = acc.length + n ∧ acc2'.length = acc.length + n ∧ at_ ≤ a' ∧ a' ≤ at_ + 8 * n := by
  have hb : BIG = 1152921504606846976 := rfl
  intro n
  induction n with
  | zero =>
    intro N at_ sd acc acc2 hN _ _ _ _ _
    obtain ⟨N, rfl⟩ := pos_fuel hN
    exact ⟨at_, sd, acc, acc2, by simp [s_DrawBestRibbon_l1], by simp, by simpa, by omega, by omega⟩
  | succ n ih =>
    intro N at_ sd acc acc2 hN h2 h3 h4 h5 h6
    obtain ⟨N, rfl⟩ := pos_fuel hN
    have hi : ((n + 1 : Nat) : Int) > 0 := by omega
    obtain ⟨v0, a0, s0, e0, b0, c0⟩ := Draw_ok code at_ sd h3 (by omega)
    obtain ⟨v1, a1, s1, e1, b1, c1, d1, d2⟩ := pick_ok code a0 s0 60 (by omega) (by omega)
    have e2 : w64 (((n + 1 : Nat) : Int) - 1) = (n : Int) := by rw [w64_id (by omega) (by omega)]; omega
    obtain ⟨a', sd', acc', acc2', g1, g2, g2', g3, g4⟩ := ih N a1 s1 (acc ++ [w64 (10 * v1)]) (acc2 ++ [v0]) (by omega) (by omega) (by omega) (by omega) (by simp; omega) (by simp [h6])
    refine ⟨a', sd', acc', acc2', ?_, by rw [g2]; simp; omega, by rw [g2']; simp; omega, by omega, by omega⟩
    simp only [s_DrawBestRibbon_l1, hi, decide_true, cond_true, e0, e1, Option.bind_some, e2]
    rw [app_some acc2 [v0] (by unfold LIM; simp; omega), Option.bind_some]
    rw [app_some _ _ (by unfold LIM; simp; omega), Option.bind_some]
    exact g1
theorem DBest_ok (N : Nat) (code : List UInt8) (hN : 5000 < N) : ∃ p, s_DrawBestRibbon N code = some p ∧ p.1.length ≤ 1000 ∧ p.2.1.length ≤ 1000 := by
  have hb : BIG = 1152921504606846976 := rfl
  have e0 : s_l00From code = some ⟨code, 0, 0⟩ := rfl
  obtain ⟨v1, a1, s1, e1, b1, c1, d1, d2⟩ := pick_ok code 0 0 5 (by omega) (by omega)
  obtain ⟨v2, a2, s2, e2, b2, c2⟩ := one_ok code a1 s1 20 (by omega) (by omega)
  simp only [s_DrawBestRibbon, e0, e1, e2, Option.bind_some, withK_eq]
  have fin : ∀ (x y : Int) (l51 : List Int) (l53 : List Ribbon), 0 ≤ x → x ≤ 100000 → l51.length ≤ 1000 → l53.length ≤ 1000 → ∃ p : List Ribbon × List Int × Int × Int, ((s_l14Strokes ⟨code, x, y⟩).bind fun r74 => (s_l00Src_one ⟨code, r74.2.at_, r74.2.seed⟩ 10).bind fun r76 => bif r76.1 then (s_l00Src_among ⟨code, r76.2.at_, r76.2.seed⟩ [0, 1, 1000, 1001]).bind fun r80 => some (l53, l51, r74.1, r80.1) else (s_l00Src_pick ⟨code, r76.2.at_, r76.2.seed⟩ 60).bind fun r82 => some (l53, l51, r74.1, w64 (1 + r82.1))) = some p ∧ p.1.length ≤ 1000 ∧ p.2.1.length ≤ 1000 := by
    intro x y l51 l53 hx hx2 h1 h2
    obtain ⟨v5, a5, s5, e5, b5, c5⟩ := Strokes_ok code x y hx (by omega)
    obtain ⟨v6, a6, s6, e6, b6, c6⟩ := one_ok code a5 s5 10 (by omega) (by omega)
    simp only [e5, e6, Option.bind_some]
    cases v6
    · obtain ⟨v7, a7, s7, e7, b7, c7, _⟩ := pick_ok code a6 s6 60 (by omega) (by omega)
      simp only [cond_false, e7, Option.bind_some]
      exact ⟨_, rfl, h2, h1⟩
    · obtain ⟨v7, a7, s7, e7, b7, c7⟩ := among_ok code a6 s6 [0, 1, 1000, 1001] (by simp) (by omega) (by omega)
      simp only [cond_true, e7, Option.bind_some]
      exact ⟨_, rfl, h2, h1⟩
  have key : ∀ (kj : Int → Int → List Int → List Ribbon → Option (List Ribbon × List Int × Int × Int)), (∀ (x y : Int) (l51 : List Int) (l53 : List Ribbon), 0 ≤ x → x ≤ 100000 → l51.length ≤ 1000 → l53.length ≤ 1000 → ∃ p : List Ribbon × List Int × Int × Int, kj x y l51 l53 = some p ∧ p.1.length ≤ 1000 ∧ p.2.1.length ≤ 1000) →
      ∀ (a3 s3 : Int) (n : Nat), n ≤ 21 → 0 ≤ a3 → a3 ≤ 10 → ∃ p, s_DrawBestRibbon_l1 (fun x21 x22 l23 l25 => bif decide ((n : Int) > 0) then (s_l00Src_pick ⟨code, x21, x22⟩ 16).bind fun r57 => bif (r57.1 == 0) then (s_l14Bent ⟨code, r57.2.at_, r57.2.seed⟩).bind fun r60 => (idx l25 0).bind fun e62 => kj r60.2.at_ r60.2.seed l23 (List.set l25 (Int.toNat 0) r60.1) else bif (r57.1 == 1) then (s_l00Src_among ⟨code, r57.2.at_, r57.2.seed⟩ [(-1), 0, 100000, 100001]).bind fun r66 => (idx l23 0).bind fun e68 => kj r66.2.at_ r66.2.seed (List.set l23 (Int.toNat 0) r66.1) l25 else bif (r57.1 == 2) then (sub l23 1 (l23.length : Int)).bind fun l71 => kj r57.2.at_ r57.2.seed l71 l25 else kj r57.2.at_ r57.2.seed l23 l25 else kj x21 x22 l23 l25) code N a3 s3 [] [] (n : Int) = some p ∧ p.1.length ≤ 1000 ∧ p.2.1.length ≤ 1000 := by
    intro kj hk a3 s3 n hn ha hb2
    obtain ⟨a', sd', acc', acc2', g1, g2, g2', g3, g4⟩ := DBest_l1 code (fun x21 x22 l23 l25 => bif decide ((n : Int) > 0) then (s_l00Src_pick ⟨code, x21, x22⟩ 16).bind fun r57 => bif (r57.1 == 0) then (s_l14Bent ⟨code, r57.2.at_, r57.2.seed⟩).bind fun r60 => (idx l25 0).bind fun e62 => kj r60.2.at_ r60.2.seed l23 (List.set l25 (Int.toNat 0) r60.1) else bif (r57.1 == 1) then (s_l00Src_among ⟨code, r57.2.at_, r57.2.seed⟩ [(-1), 0, 100000, 100001]).bind fun r66 => (idx l23 0).bind fun e68 => kj r66.2.at_ r66.2.seed (List.set l23 (Int.toNat 0) r66.1) l25 else bif (r57.1 == 2) then (sub l23 1 (l23.length : Int)).bind fun l71 => kj r57.2.at_ r57.2.seed l71 l25 else kj r57.2.at_ r57.2.seed l23 l25 else kj x21 x22 l23 l25) n N a3 s3 [] [] (by omega) (by omega) (by omega) (by omega) (by simp; omega) rfl
    rw [g1]
    simp only [List.length_nil, Nat.zero_add] at g2 g2'
    by_cases c : (n : Int) > 0
    · obtain ⟨v5, a5, s5, e5, b5, c5, _⟩ := pick_ok code a' sd' 16 (by omega) (by omega)
      simp only [c, decide_true, cond_true, e5, Option.bind_some]
      have i1 : idx acc' 0 = some (acc'[0]'(by omega)) := idx_int acc' 0 (by omega) (by omega)
      have i2 : idx acc2' 0 = some (acc2'[0]'(by omega)) := idx_int acc2' 0 (by omega) (by omega)
      have i3 : sub acc' 1 (acc'.length : Int) = some _ := sub_some acc' 1 (acc'.length : Int) (by omega) (by omega) (by omega)
      cases (v5 == 0)
      · cases (v5 == 1)
        · cases (v5 == 2)
          · exact hk _ _ _ _ (by omega) (by omega) (by omega) (by omega)
          · simp only [cond_true, cond_false, i3, Option.bind_some]
            exact hk _ _ _ _ (by omega) (by omega) (by simp; omega) (by omega)
        · obtain ⟨v7, a7, s7, e7, b7, c7⟩ := among_ok code a5 s5 [(-1), 0, 100000, 100001] (by simp) (by omega) (by omega)
          simp only [cond_true, cond_false, e7, i1, Option.bind_some]
          exact hk _ _ _ _ (by omega) (by omega) (by rw [List.length_set]; omega) (by omega)
      · obtain ⟨v7, a7, s7, e7, b7, c7⟩ := Bent_ok code a5 s5 (by omega) (by omega)
        simp only [cond_true, e7, i2, Option.bind_some]
        exact hk _ _ _ _ (by omega) (by omega) (by omega) (by rw [List.length_set]; omega)
    · simp only [c, decide_false, cond_false]
      exact hk _ _ _ _ (by omega) (by omega) (by omega) (by omega)
  cases v2
  · have := key _ fin a2 s2 v1.toNat (by omega) (by omega) (by omega)
    rw [show ((v1.toNat : Nat) : Int) = v1 by omega] at this
    exact this
  · obtain ⟨v3, a3, s3, e3, b3, c3, d3, d4⟩ := pick_ok code a2 s2 2 (by omega) (by omega)
    simp only [cond_true, e3, Option.bind_some]
    have := key _ fin a3 s3 (20 + v3).toNat (by omega) (by omega) (by omega)
    rw [show (((20 + v3).toNat : Nat) : Int) = w64 (20 + v3) by rw [w64_id (by omega) (by omega)]; omega] at this
    exact this
end Go.Proofs.Ytoojddajhalimaa
