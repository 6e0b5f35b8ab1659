/-
  Plain lemmas on these functions. No conditions but those that each states.
-/
import Derived.Test.YtkjccgkpieakpaaFnRacksP3
namespace Go.Proofs.Ytkjccgkpieakpaa
set_option linter.unusedVariables false
set_option linter.unusedSimpArgs false
theorem Has_l1_eq (l : List Int) (c : Int) (ha : l.length ≤ LIM) : ∀ (n i N : Nat), i + n = l.length → n < N → s_l00Has_l1 (some false) l c N (i : Int) = some ((l.drop i).any (· == c)) ∧ w_f6has_l1 (some false) l c N (i : Int) = some ((l.drop i).any (· == c)) := by
  intro n
  induction n with
  | zero =>
    intro i N h1 h3
    obtain ⟨N, rfl⟩ := pos_fuel h3
    have hi : ¬ ((i : Int) < (l.length : Int)) := by omega
    have e2 : l.drop i = [] := List.drop_of_length_le (by omega)
    simp [s_l00Has_l1, w_f6has_l1, hi, e2]
  | succ n ih =>
    intro i N h1 h3
    obtain ⟨N, rfl⟩ := pos_fuel h3
    have hi : (i : Int) < (l.length : Int) := by omega
    have hn : i < l.length := by omega
    unfold LIM at ha
    obtain ⟨h4, h5⟩ := ih (i + 1) N (by omega) (by omega)
    simp only [s_l00Has_l1, w_f6has_l1, hi, decide_true, cond_true, idx_lt l i hn, Option.bind_some, w64_nat i (by omega), h4, h5, drop_cons l i hn, List.any_cons]
    cases (l[i] == c) <;> exact ⟨rfl, rfl⟩
theorem Has_eq (N : Nat) (l : List Int) (c : Int) (ha : l.length ≤ LIM) (hN : l.length < N) : s_l00Has N l c = some (l.any (· == c)) ∧ w_f6has N l c = some (l.any (· == c)) := by
  obtain ⟨h1, h2⟩ := Has_l1_eq l c ha l.length 0 N (by omega) hN
  exact ⟨by simpa [s_l00Has] using h1, by simpa [w_f6has] using h2⟩
theorem Clear_l1_eq (l : List Int) (c : Int) (ha : l.length ≤ LIM) : ∀ (n i N : Nat) (o : List Int), i + n = l.length → n < N → o.length ≤ i → ∀ K, s_ClearStop_l1 K l c N o (i : Int) = K (o ++ (l.drop i).filter (· != c)) ∧ i_ClearStop_l1 K l c N o (i : Int) = K (o ++ (l.drop i).filter (· != c)) := by
  intro n
  induction n with
  | zero =>
    intro i N o h1 h3 h4 K
    obtain ⟨N, rfl⟩ := pos_fuel h3
    have hi : ¬ ((i : Int) < (l.length : Int)) := by omega
    have e2 : l.drop i = [] := List.drop_of_length_le (by omega)
    simp [s_ClearStop_l1, i_ClearStop_l1, hi, e2]
  | succ n ih =>
    intro i N o h1 h3 h4 K
    obtain ⟨N, rfl⟩ := pos_fuel h3
    have hi : (i : Int) < (l.length : Int) := by omega
    have hn : i < l.length := by omega
    have la := ha
    unfold LIM at la
    have ea : app o [l[i]] = some (o ++ [l[i]]) := app_some _ _ (by simp; omega)
    have h5 := ih (i + 1) N (o ++ [l[i]]) (by omega) (by omega) (by simp; omega) K
    have h6 := ih (i + 1) N o (by omega) (by omega) (by omega) K
    cases hc : (l[i] != c)
    · simp only [s_ClearStop_l1, i_ClearStop_l1, hi, decide_true, cond_true, withK_eq, idx_lt l i hn, Option.bind_some, hc, cond_false, w64_nat i (by omega), drop_cons l i hn, List.filter_cons, Bool.false_eq_true, if_false]
      exact h6
    · simp only [s_ClearStop_l1, i_ClearStop_l1, hi, decide_true, cond_true, withK_eq, idx_lt l i hn, Option.bind_some, hc, ea, w64_nat i (by omega), drop_cons l i hn, List.filter_cons, if_true]
      simpa using h5
end Go.Proofs.Ytkjccgkpieakpaa
