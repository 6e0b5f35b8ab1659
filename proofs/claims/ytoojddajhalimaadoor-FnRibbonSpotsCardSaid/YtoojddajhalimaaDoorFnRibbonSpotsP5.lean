/-
  Plain lemmas on these functions. No conditions but those that each states.
-/
import Derived.Test.YtoojddajhalimaaDoorFnRibbonSpotsP4
namespace Go.Proofs.YtoojddajhalimaaDoor
set_option linter.unusedVariables false
set_option linter.unusedSimpArgs false
theorem use_eq (n : Int) : i_isUse n = some (decide (0 ≤ n ∧ n ≤ 100000)) := by unfold i_isUse; rw [btw_eq, Option.bind_some]
theorem Code_eq (r : Ribbon) (d : Int) : s_l14Code r d = some (if vR r = true then (if 0 ≤ d ∧ d ≤ 100000 then 0 else 2) else 1) := by
  unfold s_l14Code
  rw [sValid_eq, Option.bind_some, sIn_eq]
  cases vR r
  · rfl
  · by_cases c : 0 ≤ d ∧ d ≤ 100000
    · simp only [c, and_self, decide_true, Bool.not_true, cond_false, Option.bind_some, if_true]
    · simp only [c, decide_false, Bool.not_true, Bool.not_false, cond_true, cond_false, Option.bind_some, if_true, if_false]
theorem ShadeAt_eq (r : Ribbon) (k : Int) (h : okR r) (h0 : 0 ≤ k) (h1 : k ≤ 100000) : i_ShadeAt r k = some (shI r k, 0) := by
  unfold i_ShadeAt
  rw [iValid_eq, vR_iff.2 h, Option.bind_some, use_eq]
  have c : 0 ≤ k ∧ k ≤ 100000 := ⟨h0, h1⟩
  simp only [Bool.not_true, cond_false, Option.bind_some, c, and_self, decide_true, iShade_eq r k h h0 (by omega)]
theorem ints_l1 (a : List Int) (K : Option Bool) (ha : a.length ≤ 1000) : ∀ (n i N : Nat), i + n = a.length → n < N → w_f6ints_l1 K a a N (i : Int) = K := by
  intro n
  induction n with
  | zero =>
    intro i N h1 h2
    obtain ⟨N, rfl⟩ := pos_fuel h2
    have hi : ¬ ((i : Int) < (a.length : Int)) := by omega
    simp only [w_f6ints_l1, hi, decide_false, cond_false]
  | succ n ih =>
    intro i N h1 h2
    obtain ⟨N, rfl⟩ := pos_fuel h2
    have hi : (i : Int) < (a.length : Int) := by omega
    simp only [w_f6ints_l1, hi, decide_true, cond_true, idx_lt a i (by omega), Option.bind_some, bne_self_eq_false, cond_false, w64_nat i (by omega)]
    exact ih (i + 1) N (by omega) (by omega)
theorem ints_eq (N : Nat) (a : List Int) (ha : a.length ≤ 1000) (hN : 1000 < N) : w_f6ints N a a = some true := by
  have := ints_l1 a (some true) ha a.length 0 N (by omega) (by omega)
  rw [show ((0 : Nat) : Int) = 0 from rfl] at this
  unfold w_f6ints
  simp only [bne_self_eq_false, cond_false, withK_eq, this]
theorem Draw_ok (code : List UInt8) (at_ seed : Int) (h0 : 0 ≤ at_) (h1 : at_ ≤ 1000000) : ∃ v a sd, s_l14Draw ⟨code, at_, seed⟩ = some (v, ⟨code, a, sd⟩) ∧ at_ ≤ a ∧ a ≤ at_ + 6 := by
  have hb : BIG = 1152921504606846976 := rfl
  obtain ⟨v1, a1, s1, e1, b1, c1, _⟩ := pick_ok code at_ seed 20 h0 (by omega)
  obtain ⟨v2, a2, s2, e2, b2, c2, _⟩ := pick_ok code a1 s1 80 (by omega) (by omega)
  obtain ⟨v3, a3, s3, e3, b3, c3, _⟩ := pick_ok code a2 s2 15 (by omega) (by omega)
  simp only [s_l14Draw, e1, e2, e3, Option.bind_some]
  exact ⟨_, _, _, rfl, by omega, by omega⟩
theorem Bent_ok (code : List UInt8) (at_ seed : Int) (h0 : 0 ≤ at_) (h1 : at_ ≤ 1000000) : ∃ v a sd, s_l14Bent ⟨code, at_, seed⟩ = some (v, ⟨code, a, sd⟩) ∧ at_ ≤ a ∧ a ≤ at_ + 10 := by
  have hb : BIG = 1152921504606846976 := rfl
  obtain ⟨v1, a1, s1, e1, b1, c1⟩ := Draw_ok code at_ seed h0 h1
  obtain ⟨v2, a2, s2, e2, b2, c2, _⟩ := pick_ok code a1 s1 24 (by omega) (by omega)
  simp only [s_l14Bent, e1, e2, Option.bind_some, withK_eq]
  cases (v2 == 0)
  · cases (v2 == 1)
    · cases (v2 == 2)
      · exact ⟨_, _, _, rfl, by omega, by omega⟩
      · obtain ⟨v3, a3, s3, e3, b3, c3⟩ := among_ok code a2 s2 [0, 1, v1.ink, w64 (v1.ink + 1)] (by simp) (by omega) (by omega)
        simp only [cond_true, cond_false, e3, Option.bind_some]
        exact ⟨_, _, _, rfl, by omega, by omega⟩
    · obtain ⟨v3, a3, s3, e3, b3, c3⟩ := among_ok code a2 s2 [0, v1.takes, 1000, 1001] (by simp) (by omega) (by omega)
      simp only [cond_true, cond_false, e3, Option.bind_some]
      exact ⟨_, _, _, rfl, by omega, by omega⟩
  · obtain ⟨v3, a3, s3, e3, b3, c3⟩ := among_ok code a2 s2 [1, 2, 200, 201, (-9223372036854775808)] (by simp) (by omega) (by omega)
    simp only [cond_true, e3, Option.bind_some]
    exact ⟨_, _, _, rfl, by omega, by omega⟩
theorem Strokes_ok (code : List UInt8) (at_ seed : Int) (h0 : 0 ≤ at_) (h1 : at_ ≤ 1000000) : ∃ v a sd, s_l14Strokes ⟨code, at_, seed⟩ = some (v, ⟨code, a, sd⟩) ∧ at_ ≤ a ∧ a ≤ at_ + 4 := by
  have hb : BIG = 1152921504606846976 := rfl
  obtain ⟨v1, a1, s1, e1, b1, c1⟩ := one_ok code at_ seed 10 h0 (by omega)
  simp only [s_l14Strokes, e1, Option.bind_some]
  cases v1
  · obtain ⟨v2, a2, s2, e2, b2, c2, _⟩ := pick_ok code a1 s1 200 (by omega) (by omega)
    simp only [cond_false, e2, Option.bind_some]
    exact ⟨_, _, _, rfl, by omega, by omega⟩
  · obtain ⟨v2, a2, s2, e2, b2, c2⟩ := among_ok code a1 s1 [(-1), 0, 100000, 100001, 9223372036854775807] (by simp) (by omega) (by omega)
    simp only [cond_true, e2, Option.bind_some]
    exact ⟨_, _, _, rfl, by omega, by omega⟩
end Go.Proofs.YtoojddajhalimaaDoor
