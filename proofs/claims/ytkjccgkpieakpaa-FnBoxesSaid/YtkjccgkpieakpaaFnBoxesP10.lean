/-
  Plain lemmas on these functions. No conditions but those that each states.
-/
import Derived.Test.YtkjccgkpieakpaaFnBoxesP9
namespace Go.Proofs.Ytkjccgkpieakpaa
set_option linter.unusedVariables false
set_option linter.unusedSimpArgs false
def shorts (l : List Str) : Prop := l.length ≤ 31 ∧ ∀ e ∈ l, e.length ≤ 120
theorem shorts_app {l : List Str} {e : Str} {k : Nat} (h1 : ∀ e ∈ l, e.length ≤ 120) (h2 : e.length ≤ 120) : ∀ x ∈ l ++ [e], x.length ≤ 120 := fun x hx => by
  rcases List.mem_append.1 hx with hx | hx
  · exact h1 x hx
  · simp at hx; subst hx; exact h2
theorem shorts_set {l : List Str} {e : Str} {i : Nat} (h : ∀ e ∈ l, e.length ≤ 120) (h2 : e.length ≤ 120) : ∀ x ∈ l.set i e, x.length ≤ 120 := fun x hx => by
  rcases List.mem_or_eq_of_mem_set hx with hx | rfl
  · exact h x hx
  · exact h2
theorem Some_l1_ok (code : List UInt8) : ∀ (k N : Nat) (s1 : L00Src) (at_ seed B : Int) (l : List Str), s1.code = code → 0 ≤ at_ → at_ + 2 * k ≤ B → B < BIG → l.length + k ≤ 31 → (∀ e ∈ l, e.length ≤ 120) → k < N →
    ∃ a sd l', a ≤ B ∧ 0 ≤ a ∧ l'.length = l.length + k ∧ (∀ e ∈ l', e.length ≤ 120) ∧ ∀ K, s_l10Some_l1 K s1 N at_ seed l (k : Int) = K a sd l' := by
  intro k
  induction k with
  | zero =>
    intro N s1 at_ seed B l hs h0 h1 h2 h3 hl h4
    obtain ⟨N, rfl⟩ := pos_fuel h4
    exact ⟨at_, seed, l, by omega, h0, by omega, hl, fun K => by simp [s_l10Some_l1]⟩
  | succ k ih =>
    intro N s1 at_ seed B l hs h0 h1 h2 h3 hl h4
    obtain ⟨N, rfl⟩ := pos_fuel h4
    subst hs
    have hk : (((k + 1 : Nat) : Int) > 0) := by omega
    have hkk : w64 (((k + 1 : Nat) : Int) - 1) = (k : Int) := by rw [w64_id (by omega) (by omega)]; omega
    obtain ⟨v1, a1, s1', e1, b1, c1, d1⟩ := text_mem s1.code at_ seed [[], [105, 110, 107], [97, 32, 98], [32, 32, 116, 119, 111], [114, 105, 98, 98, 111, 110, 32], [84, 104, 101, 32, 83, 116, 97, 110, 100, 97, 114, 100, 32, 87, 114, 105, 116, 101, 114]] (by simp) h0 (by omega)
    have l1 : v1.length ≤ 120 := by
      simp only [List.mem_cons, List.not_mem_nil, or_false] at d1
      rcases d1 with rfl | rfl | rfl | rfl | rfl | rfl <;> decide
    have ea : app l [v1] = some (l ++ [v1]) := app_some _ _ (by simp; unfold LIM; omega)
    obtain ⟨a'', sd'', l', i1, i2, i3, i4, i5⟩ := ih N s1 a1 s1' B (l ++ [v1]) rfl (by omega) (by omega) h2 (by simp; omega) (shorts_app (k := 0) hl l1) (by omega)
    refine ⟨a'', sd'', l', i1, i2, by rw [i3]; simp; omega, i4, fun K => ?_⟩
    simp only [s_l10Some_l1, hk, decide_true, cond_true, e1, Option.bind_some, ea, hkk]
    exact i5 K
theorem Some_ok (code : List UInt8) (at_ seed : Int) (N : Nat) (hN : 200 < N) (h0 : 0 ≤ at_) (h1 : at_ + 300 < BIG) : ∃ l a sd, s_l10Some N ⟨code, at_, seed⟩ = some (l, ⟨code, a, sd⟩) ∧ 0 ≤ a ∧ a ≤ at_ + 100 ∧ shorts l := by
  obtain ⟨v, a1, s1, e1, b1, c1, d1, f1⟩ := pick_ok code at_ seed 5 h0 (by omega)
  have f1 := f1 (by omega)
  obtain ⟨v2, a2, s2, e2, b2, c2⟩ := one_ok code a1 s1 20 (by omega) (by omega)
  have fin : ∀ (a sd n : Int), 0 ≤ a → a ≤ at_ + 10 → 0 ≤ n → n ≤ 31 → ∃ l' a' sd', (withK (fun (x18 : Int) (x19 : Int) (l20 : List Str) =>
      withK (fun (x37 : Int) (x38 : Int) (l39 : List Str) =>
      some (l39, (L00Src.mk code x37 x38))) fun (k40 : Int → Int → (List Str) → Option ((List Str) × L00Src)) =>
      bif decide (n > 0) then
      (s_l00Src_pick (L00Src.mk code x18 x19) 20).bind fun r43 =>
      bif (r43.1 == 0) then
      (s_l00Src_among (L00Src.mk code r43.2.at_ r43.2.seed) [96, 97, 100, 101]).bind fun r47 =>
      (s_l10Rule N 109 r47.1).bind fun r49 =>
      (idx l20 0).bind fun e51 =>
      k40 r47.2.at_ r47.2.seed (List.set l20 (Int.toNat 0) r49)
      else
      bif (r43.1 == 1) then
      (idx l20 0).bind fun e54 =>
      k40 r43.2.at_ r43.2.seed (List.set l20 (Int.toNat 0) [127])
      else
      k40 r43.2.at_ r43.2.seed l20
      else
      k40 x18 x19 l20) fun (k22 : Int → Int → (List Str) → Option ((List Str) × L00Src)) =>
      s_l10Some_l1 k22 ⟨code, at_, seed⟩ N a sd [] n) = some (l', ⟨code, a', sd'⟩) ∧ 0 ≤ a' ∧ a' ≤ at_ + 100 ∧ shorts l' := by
    intro a sd n ha hb hn hn2
    obtain ⟨k, rfl⟩ := Int.eq_ofNat_of_zero_le hn
    obtain ⟨a4, s4, l4, i1, i2, i3, i4, i5⟩ := Some_l1_ok code k N ⟨code, at_, seed⟩ a sd (at_ + 80) [] rfl ha (by omega) (by omega) (by simp; omega) (by simp) (by omega)
    simp only [withK_eq]
    rw [i5]
    simp only [List.length_nil, Nat.zero_add] at i3
    by_cases g : (k : Int) > 0
    · obtain ⟨v5, a5, s5, e5, b5, c5, _, _⟩ := pick_ok code a4 s4 20 (by omega) (by omega)
      obtain ⟨v6, a6, s6, e6, b6, c6, d6⟩ := among_mem code a5 s5 [96, 97, 100, 101] (by simp) (by omega) (by omega)
      have hv : 96 ≤ v6 ∧ v6 ≤ 101 := by
        simp only [List.mem_cons, List.not_mem_nil, or_false] at d6
        omega
      have er := rule_eq N 109 v6 (by omega) (by omega) (by omega)
      have hx := idx_int l4 0 (by omega) (by omega)
      simp only [g, decide_true, cond_true, e5, Option.bind_some, e6, er, hx]
      cases (v5 == 0)
      · cases (v5 == 1)
        · exact ⟨_, _, _, rfl, by omega, by omega, by omega, i4⟩
        · exact ⟨_, _, _, rfl, by omega, by omega, by simp; omega, shorts_set i4 (by decide)⟩
      · exact ⟨_, _, _, rfl, by omega, by omega, by simp; omega, shorts_set i4 (by simp; omega)⟩
    · simp only [g, decide_false, cond_false]
      exact ⟨_, _, _, rfl, by omega, by omega, by omega, i4⟩
  unfold s_l10Some
  simp only [e1, Option.bind_some, e2]
  cases v2
  · obtain ⟨l', a', sd', g1, g2⟩ := fin a2 s2 v (by omega) (by omega) d1 (by omega)
    exact ⟨l', a', sd', by simpa only [withK_eq, cond_false] using g1, g2⟩
  · obtain ⟨v7, a7, s7, e7, b7, c7, d7, f7⟩ := pick_ok code a2 s2 2 (by omega) (by omega)
    have f7 := f7 (by omega)
    obtain ⟨l', a', sd', g1, g2⟩ := fin a7 s7 (30 + v7) (by omega) (by omega) (by omega) (by omega)
    have ew : w64 (30 + v7) = 30 + v7 := w64_id (by omega) (by omega)
    exact ⟨l', a', sd', by simpa only [withK_eq, cond_true, e7, Option.bind_some, ew] using g1, g2⟩
theorem Tpage_l1_ok (code : List UInt8) : ∀ (k N : Nat) (at_ seed B : Int) (l : List Str), 0 ≤ at_ → at_ + 20 * k ≤ B → B + 1000 < BIG → l.length + k ≤ 31 → (∀ e ∈ l, e.length ≤ 120) → k + 300 < N →
    ∃ a sd l', a ≤ B ∧ 0 ≤ a ∧ shorts l' ∧ ∀ K, s_DrawTitlePage_l1 K code N at_ seed l (k : Int) = K a sd l' := by
  intro k
  induction k with
  | zero =>
    intro N at_ seed B l h0 h1 h2 h3 hl h4
    obtain ⟨N, rfl⟩ := pos_fuel (by omega : 0 < N)
    exact ⟨at_, seed, l, by omega, h0, ⟨by omega, hl⟩, fun K => by simp [s_DrawTitlePage_l1]⟩
  | succ k ih =>
    intro N at_ seed B l h0 h1 h2 h3 hl h4
    obtain ⟨N, rfl⟩ := pos_fuel (by omega : 0 < N)
    have hk : (((k + 1 : Nat) : Int) > 0) := by omega
    have hkk : w64 (((k + 1 : Nat) : Int) - 1) = (k : Int) := by rw [w64_id (by omega) (by omega)]; omega
    obtain ⟨v1, a1, s1, e1, b1, c1, d1⟩ := LDraw_ok code at_ seed N (by omega) h0 (by omega)
    obtain ⟨v2, a2, s2, e2, b2, c2⟩ := one_ok code a1 s1 2 (by omega) (by omega)
    have ea : app l [v1] = some (l ++ [v1]) := app_some _ _ (by simp; unfold LIM; omega)
    have hs := shorts_app (k := 0) hl d1
    have ew : w64 (((l ++ [v1]).length : Int) - 1) = (l.length : Int) := by
      have hll : (l ++ [v1]).length = l.length + 1 := by simp
      rw [hll, w64_id (by omega) (by omega)]; omega
    have hx := idx_lt (l ++ [v1]) l.length (by simp)
    cases v2
    · obtain ⟨a', sd', l', i1, i2, i3, i4⟩ := ih N a2 s2 B (l ++ [v1]) (by omega) (by omega) h2 (by simp; omega) hs (by omega)
      refine ⟨a', sd', l', i1, i2, i3, fun K => ?_⟩
      simp only [s_DrawTitlePage_l1, hk, decide_true, cond_true, withK_eq, e1, Option.bind_some, ea, e2, cond_false, hkk]
      exact i4 K
    · obtain ⟨a', sd', l', i1, i2, i3, i4⟩ := ih N a2 s2 B ((l ++ [v1]).set l.length [105, 110, 107]) (by omega) (by omega) h2 (by simp; omega) (shorts_set hs (by decide)) (by omega)
      refine ⟨a', sd', l', i1, i2, i3, fun K => ?_⟩
      simp only [s_DrawTitlePage_l1, hk, decide_true, cond_true, withK_eq, e1, Option.bind_some, ea, e2, hkk, ew, hx, Int.toNat_natCast]
      exact i4 K
theorem Tpage_ok (code : List UInt8) (N : Nat) (hN : 1000 < N) : ∃ p : List Str × Int × Int, s_DrawTitlePage N code = some p ∧ shorts p.1 := by
  have hb : BIG = 1152921504606846976 := rfl
  obtain ⟨v, a1, s1, e1, b1, c1, d1, f1⟩ := pick_ok code 0 0 5 (by omega) (by omega)
  have f1 := f1 (by omega)
  obtain ⟨v2, a2, s2, e2, b2, c2⟩ := one_ok code a1 s1 20 (by omega) (by omega)
  have fin : ∀ (a sd n : Int), 0 ≤ a → a ≤ 10 → 0 ≤ n → n ≤ 31 → ∃ p : List Str × Int × Int, (withK (fun (x20 : Int) (x21 : Int) (l22 : List Str) =>
      (s_l10Width (L00Src.mk code x20 x21)).bind fun r49 =>
      (s_l00Src_one (L00Src.mk code r49.2.at_ r49.2.seed) 8).bind fun r51 =>
      bif r51.1 then
      (s_l00Src_among (L00Src.mk code r51.2.at_ r51.2.seed) [(-1), 0, 1, 30, 31]).bind fun r55 =>
      some (l22, r49.1, r55.1)
      else
      (s_l00Src_pick (L00Src.mk code r51.2.at_ r51.2.seed) 12).bind fun r57 =>
      some (l22, r49.1, w64 (1 + r57.1))) fun (k24 : Int → Int → (List Str) → Option ((List Str) × Int × Int)) =>
      s_DrawTitlePage_l1 k24 code N a sd [] n) = some p ∧ shorts p.1 := by
    intro a sd n ha hb hn hn2
    obtain ⟨k, rfl⟩ := Int.eq_ofNat_of_zero_le hn
    obtain ⟨a4, s4, l4, i1, i2, i3, i4⟩ := Tpage_l1_ok code k N a sd 1000 [] ha (by omega) (by omega) (by simp; omega) (by simp) (by omega)
    simp only [withK_eq]
    rw [i4]
    obtain ⟨v5, a5, s5, e5, b5, c5⟩ := LWidth_ok code a4 s4 (by omega) (by omega)
    obtain ⟨v6, a6, s6, e6, b6, c6⟩ := one_ok code a5 s5 8 (by omega) (by omega)
    obtain ⟨v7, a7, s7, e7, b7, c7⟩ := among_ok code a6 s6 [(-1), 0, 1, 30, 31] (by simp) (by omega) (by omega)
    obtain ⟨v8, a8, s8, e8, b8, c8, _, _⟩ := pick_ok code a6 s6 12 (by omega) (by omega)
    simp only [e5, Option.bind_some, e6, e7, e8]
    cases v6
    · exact ⟨_, rfl, i3⟩
    · exact ⟨_, rfl, i3⟩
  unfold s_DrawTitlePage
  simp only [s_l00From, e1, Option.bind_some, e2]
  cases v2
  · obtain ⟨p, g1, g2⟩ := fin a2 s2 v (by omega) (by omega) d1 (by omega)
    exact ⟨p, by simpa only [withK_eq, cond_false] using g1, g2⟩
  · obtain ⟨v7, a7, s7, e7, b7, c7, d7, f7⟩ := pick_ok code a2 s2 2 (by omega) (by omega)
    have f7 := f7 (by omega)
    obtain ⟨p, g1, g2⟩ := fin a7 s7 (30 + v7) (by omega) (by omega) (by omega) (by omega)
    have ew : w64 (30 + v7) = 30 + v7 := w64_id (by omega) (by omega)
    exact ⟨p, by simpa only [withK_eq, cond_true, e7, Option.bind_some, ew] using g1, g2⟩
end Go.Proofs.Ytkjccgkpieakpaa
