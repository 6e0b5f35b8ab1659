/-
  Plain lemmas on these functions. No conditions but those that each states.
-/
import Derived.Test.YtdnnnakjhehfkaaDoorFnReplacementsP12
namespace Go.Proofs.YtdnnnakjhehfkaaDoor
set_option linter.unusedVariables false
set_option linter.unusedSimpArgs false
theorem Draw_l1_ok (code : List UInt8) : ∀ (k N : Nat) (s1 : L00Src) (at_ seed B : Int) (l : List SparePart), s1.code = code → 0 ≤ at_ → at_ + 20 * k ≤ B → B < BIG → l.length + k ≤ 8 → k < N →
    ∃ a sd l', a ≤ B ∧ 0 ≤ a ∧ l'.length ≤ 8 ∧ ∀ K, s_l24Draw_l1 K s1 N at_ seed l (k : Int) = K a sd l' := by
  intro k
  induction k with
  | zero =>
    intro N s1 at_ seed B l hs h0 h1 h2 h3 h4
    obtain ⟨N, rfl⟩ := pos_fuel h4
    exact ⟨at_, seed, l, by omega, h0, by omega, fun K => by simp [s_l24Draw_l1]⟩
  | succ k ih =>
    intro N s1 at_ seed B l hs h0 h1 h2 h3 h4
    obtain ⟨N, rfl⟩ := pos_fuel h4
    subst hs
    have hk : (((k + 1 : Nat) : Int) > 0) := by omega
    have hkk : w64 (((k + 1 : Nat) : Int) - 1) = (k : Int) := by rw [w64_id (by omega) (by omega)]; omega
    have hn : l.length < ([[98, 97, 114], [98, 101, 108, 108], [100, 114, 117, 109], [107, 101, 121, 45, 97], [112, 97, 119, 108], [114, 97, 99, 107], [115, 112, 114, 105, 110, 103], [115, 112, 111, 111, 108]] : List (List UInt8)).length := by simp; omega
    have hi := idx_lt ([[98, 97, 114], [98, 101, 108, 108], [100, 114, 117, 109], [107, 101, 121, 45, 97], [112, 97, 119, 108], [114, 97, 99, 107], [115, 112, 114, 105, 110, 103], [115, 112, 111, 111, 108]] : List (List UInt8)) l.length hn
    obtain ⟨v1, a1, s1', e1, b1, c1, _, _⟩ := pick_ok s1.code at_ seed 20 h0 (by omega)
    obtain ⟨v2, a2, s2, e2, b2, c2, _, _⟩ := pick_ok s1.code a1 s1' 20 (by omega) (by omega)
    obtain ⟨v3, a3, s3, e3, b3, c3, _, _⟩ := pick_ok s1.code a2 s2 30 (by omega) (by omega)
    -- the end of a round
    have fin : ∀ (a : Int) (sd : Int) (x : Str) (y1 y2 y3 y4 : Int), a3 ≤ a → a ≤ at_ + 10 →
        ∃ a' sd' l', a' ≤ B ∧ 0 ≤ a' ∧ l'.length ≤ 8 ∧ ∀ K, (withK (fun (x49 : Int) (x50 : Int) (x51 : Str) (x52 : Int) (x53 : Int) (x54 : Int) (x55 : Int) =>
          (app l [(SparePart.mk x51 x52 x53 x54 x55)]).bind fun l62 =>
          s_l24Draw_l1 K s1 N x49 x50 l62 (w64 (((k + 1 : Nat) : Int) - 1))) fun (k57 : Int → Int → Str → Int → Int → Int → Int → Option ((List SparePart) × L00Src)) =>
          (s_l00Src_one (L00Src.mk s1.code a sd) 3).bind fun r58 =>
          bif r58.1 then k57 r58.2.at_ r58.2.seed x 0 y2 y3 y4 else k57 r58.2.at_ r58.2.seed x y1 y2 y3 y4) = K a' sd' l' := by
      intro a sd x y1 y2 y3 y4 ha hb
      obtain ⟨v, a', sd', e, b, c⟩ := one_ok s1.code a sd 3 (by omega) (by omega)
      have rest : ∀ z : SparePart, ∃ a'' sd'' l', a'' ≤ B ∧ 0 ≤ a'' ∧ l'.length ≤ 8 ∧ ∀ K, ((app l [z]).bind fun l62 => s_l24Draw_l1 K s1 N a' sd' l62 (w64 (((k + 1 : Nat) : Int) - 1))) = K a'' sd'' l' := by
        intro z
        have ea : app l [z] = some (l ++ [z]) := app_some _ _ (by simp; unfold LIM; omega)
        obtain ⟨a'', sd'', l', i1, i2, i3, i4⟩ := ih N s1 a' sd' B (l ++ [z]) rfl (by omega) (by omega) h2 (by simp; omega) (by omega)
        exact ⟨a'', sd'', l', i1, i2, i3, fun K => by rw [ea, Option.bind_some, hkk]; exact i4 K⟩
      cases v
      · obtain ⟨a'', sd'', l', i1, i2, i3, i4⟩ := rest ⟨x, y1, y2, y3, y4⟩
        exact ⟨a'', sd'', l', i1, i2, i3, fun K => by simp only [withK_eq, e, Option.bind_some, cond_false]; exact i4 K⟩
      · obtain ⟨a'', sd'', l', i1, i2, i3, i4⟩ := rest ⟨x, 0, y2, y3, y4⟩
        exact ⟨a'', sd'', l', i1, i2, i3, fun K => by simp only [withK_eq, e, Option.bind_some, cond_true]; exact i4 K⟩
    -- the link
    by_cases hl : (l.length : Int) > 0
    · obtain ⟨v4, a4, s4, e4, b4, c4⟩ := one_ok s1.code a3 s3 2 (by omega) (by omega)
      cases v4
      · obtain ⟨a', sd', l', i1, i2, i3, i4⟩ := fin a4 s4 _ v1 v2 v3 (-1) b4 (by omega)
        refine ⟨a', sd', l', i1, i2, i3, fun K => ?_⟩
        simp only [s_l24Draw_l1, hk, decide_true, cond_true, hi, Option.bind_some, e1, e2, e3, hl, e4, cond_false, withK_eq]
        exact i4 K
      · obtain ⟨v5, a5, s5, e5, b5, c5, _, _⟩ := pick_ok s1.code a4 s4 (l.length : Int) (by omega) (by omega)
        obtain ⟨a', sd', l', i1, i2, i3, i4⟩ := fin a5 s5 _ v1 v2 v3 v5 (by omega) (by omega)
        refine ⟨a', sd', l', i1, i2, i3, fun K => ?_⟩
        simp only [s_l24Draw_l1, hk, decide_true, cond_true, hi, Option.bind_some, e1, e2, e3, hl, e4, e5, withK_eq]
        exact i4 K
    · obtain ⟨a', sd', l', i1, i2, i3, i4⟩ := fin a3 s3 _ v1 v2 v3 (-1) (by omega) (by omega)
      refine ⟨a', sd', l', i1, i2, i3, fun K => ?_⟩
      simp only [s_l24Draw_l1, hk, decide_true, cond_true, hi, Option.bind_some, e1, e2, e3, hl, decide_false, cond_false, withK_eq]
      exact i4 K
theorem Draw_ok (code : List UInt8) (at_ seed : Int) (N : Nat) (hN : 20 < N) (h0 : 0 ≤ at_) (h1 : at_ + 300 < BIG) : ∃ a sd l, s_l24Draw N ⟨code, at_, seed⟩ = some (l, ⟨code, a, sd⟩) ∧ 0 ≤ a ∧ a ≤ at_ + 200 ∧ l.length ≤ 8 := by
  obtain ⟨v, a1, s1, e1, b1, c1, d1, f1⟩ := pick_ok code at_ seed 9 h0 (by omega)
  have := f1 (by omega)
  obtain ⟨k, rfl⟩ := Int.eq_ofNat_of_zero_le d1
  obtain ⟨a, sd, l, i1, i2, i3, i4⟩ := Draw_l1_ok code k N ⟨code, at_, seed⟩ a1 s1 (at_ + 200) [] rfl (by omega) (by omega) (by omega) (by simp; omega) (by omega)
  exact ⟨a, sd, l, by simp only [s_l24Draw, withK_eq, e1, Option.bind_some]; exact i4 _, i2, i1, i3⟩
end Go.Proofs.YtdnnnakjhehfkaaDoor
