/-
  Plain lemmas on these functions. No conditions but those that each states.
-/
import Derived.Test.YtkjccgkpieakpaaFnRacksP5
namespace Go.Proofs.Ytkjccgkpieakpaa
set_option linter.unusedVariables false
set_option linter.unusedSimpArgs false
theorem Put_done (l : List Int) (c : Int) (ha : l.length ≤ 1000) : ∀ (n i N : Nat) (o : List Int), i + n = l.length → n < N → o.length ≤ i + 1 → ∀ K, s_l00Put_l1 K l c N o true (i : Int) = K (o ++ l.drop i) true := by
  intro n
  induction n with
  | zero =>
    intro i N o h1 h3 h4 K
    obtain ⟨N, rfl⟩ := pos_fuel h3
    have hi : ¬ ((i : Int) < (l.length : Int)) := by omega
    have e2 : l.drop i = [] := List.drop_of_length_le (by omega)
    simp [s_l00Put_l1, hi, e2]
  | succ n ih =>
    intro i N o h1 h3 h4 K
    obtain ⟨N, rfl⟩ := pos_fuel h3
    have hi : (i : Int) < (l.length : Int) := by omega
    have hn : i < l.length := by omega
    have ea : app o [l[i]] = some (o ++ [l[i]]) := app_some _ _ (by simp; unfold LIM; omega)
    simp only [s_l00Put_l1, hi, decide_true, cond_true, withK_eq, Bool.not_true, andO_false, Option.bind_some, cond_false, idx_lt l i hn, ea, w64_nat i (by omega)]
    rw [ih (i + 1) N (o ++ [l[i]]) (by omega) (by omega) (by simp; omega) K, drop_cons l i hn]
    simp
theorem At_eq (l : List Int) (c : Int) (ha : l.length ≤ 1000) : ∀ (n i N : Nat), i + n = l.length → n < N → (∀ j, j < i → ∀ h : j < l.length, l[j] < c) →
    ∃ at_ : Nat, i ≤ at_ ∧ at_ ≤ l.length ∧ (∀ j, j < at_ → ∀ h : j < l.length, l[j] < c) ∧ (∀ h : at_ < l.length, ¬ l[at_] < c) ∧ ∀ K, i_SetStop_l1 K l c N (i : Int) = K (at_ : Int) := by
  intro n
  induction n with
  | zero =>
    intro i N h1 h3 hI
    obtain ⟨N, rfl⟩ := pos_fuel h3
    have hi : ¬ ((i : Int) < (l.length : Int)) := by omega
    exact ⟨i, by omega, by omega, hI, fun h => by omega, fun K => by simp [i_SetStop_l1, hi]⟩
  | succ n ih =>
    intro i N h1 h3 hI
    obtain ⟨N, rfl⟩ := pos_fuel h3
    have hi : (i : Int) < (l.length : Int) := by omega
    have hn : i < l.length := by omega
    by_cases hc : l[i] < c
    · obtain ⟨a, g1, g2, g3, g4, g5⟩ := ih (i + 1) N (by omega) (by omega) (fun j hj h => by
        by_cases e : j = i
        · subst e; exact hc
        · exact hI j (by omega) h)
      exact ⟨a, by omega, g2, g3, g4, fun K => by simp only [i_SetStop_l1, hi, decide_true, andO_true, idx_lt l i hn, Option.bind_some, hc, cond_true, w64_nat i (by omega)]; exact g5 K⟩
    · exact ⟨i, by omega, by omega, hI, fun _ => hc, fun K => by simp only [i_SetStop_l1, hi, decide_true, andO_true, idx_lt l i hn, Option.bind_some, hc, decide_false, cond_false]⟩
theorem Put_eq (l : List Int) (c : Int) (ha : l.length ≤ 1000) (at_ : Nat) (hat : at_ ≤ l.length) (h1 : ∀ j, j < at_ → ∀ h : j < l.length, l[j] < c) (h2 : ∀ h : at_ < l.length, l[at_] > c) :
    ∀ (n i N : Nat) (o : List Int), i + n = at_ → l.length < N + i → o.length = i → ∀ K : List Int → Bool → Option (List Int),
      s_l00Put_l1 K l c N o false (i : Int) = if at_ < l.length then K (o ++ ((l.drop i).take n ++ c :: l.drop at_)) true else K (o ++ (l.drop i).take n) false := by
  intro n
  induction n with
  | zero =>
    intro i N o g1 g2 g3 K
    obtain rfl : i = at_ := by omega
    by_cases hn : i < l.length
    · obtain ⟨N, rfl⟩ := pos_fuel (by omega : 0 < N)
      have hi : (i : Int) < (l.length : Int) := by omega
      have hc := h2 hn
      have hc2 : l[i] ≥ c := by omega
      have ea : app o [c] = some (o ++ [c]) := app_some _ _ (by simp; unfold LIM; omega)
      have eb : app (o ++ [c]) [l[i]] = some (o ++ [c] ++ [l[i]]) := app_some _ _ (by simp; unfold LIM; omega)
      simp only [s_l00Put_l1, hi, decide_true, cond_true, withK_eq, Bool.not_false, andO_true, idx_lt l i hn, Option.bind_some, hc, hc2, ea, eb, w64_nat i (by omega), hn, if_true]
      rw [Put_done l c ha (l.length - (i + 1)) (i + 1) N _ (by omega) (by omega) (by simp; omega) K, drop_cons l i hn]
      simp
    · obtain ⟨N, rfl⟩ := pos_fuel (by omega : 0 < N)
      have hi : ¬ ((i : Int) < (l.length : Int)) := by omega
      simp [s_l00Put_l1, hi, hn]
  | succ n ih =>
    intro i N o g1 g2 g3 K
    obtain ⟨N, rfl⟩ := pos_fuel (by omega : 0 < N)
    have hn : i < l.length := by omega
    have hi : (i : Int) < (l.length : Int) := by omega
    have hc : ¬ l[i] ≥ c := by have := h1 i (by omega) hn; omega
    have ea : app o [l[i]] = some (o ++ [l[i]]) := app_some _ _ (by simp; unfold LIM; omega)
    simp only [s_l00Put_l1, hi, decide_true, cond_true, withK_eq, Bool.not_false, andO_true, idx_lt l i hn, Option.bind_some, hc, decide_false, cond_false, ea, w64_nat i (by omega)]
    have e : (l.drop i).take (n + 1) = l[i] :: (l.drop (i + 1)).take n := by rw [drop_cons l i hn]; rfl
    rw [ih (i + 1) N (o ++ [l[i]]) (by omega) (by omega) (by simp; omega) K, e]
    simp
end Go.Proofs.Ytkjccgkpieakpaa
