/-
  Plain lemmas on these functions. No conditions but those that each states.
-/
import Derived.Test.YtkjccgkpieakpaaFnRacksP4
namespace Go.Proofs.Ytkjccgkpieakpaa
set_option linter.unusedVariables false
set_option linter.unusedSimpArgs false
/-- the first stop behind a column -/
theorem Next_l1_eq (l : List Int) (c : Int) (ha : l.length ≤ LIM) : ∀ (n i N : Nat), i + n = l.length → n < N → (∀ j, j < i → ∀ h : j < l.length, l[j] ≤ c) →
    (∃ k, ∃ h : k < l.length, l[k] > c ∧ (∀ j, j < k → ∀ h : j < l.length, l[j] ≤ c) ∧ s_NextStop_l1 (some (0, 3)) l c N (i : Int) = some (l[k], 0) ∧ i_NextStop_l1 (some (0, 3)) l c N (i : Int) = some (l[k], 0)) ∨
    (s_NextStop_l1 (some (0, 3)) l c N (i : Int) = some (0, 3) ∧ i_NextStop_l1 (some (0, 3)) l c N (i : Int) = some (0, 3)) := by
  intro n
  induction n with
  | zero =>
    intro i N h1 h3 hI
    obtain ⟨N, rfl⟩ := pos_fuel h3
    have hi : ¬ ((i : Int) < (l.length : Int)) := by omega
    exact .inr (by simp [s_NextStop_l1, i_NextStop_l1, hi])
  | succ n ih =>
    intro i N h1 h3 hI
    obtain ⟨N, rfl⟩ := pos_fuel h3
    have hi : (i : Int) < (l.length : Int) := by omega
    have hn : i < l.length := by omega
    have la := ha
    unfold LIM at la
    by_cases hc : l[i] > c
    · exact .inl ⟨i, hn, hc, hI, by simp [s_NextStop_l1, hi, idx_lt l i hn, hc], by simp [i_NextStop_l1, hi, idx_lt l i hn, hc]⟩
    · have h5 := ih (i + 1) N (by omega) (by omega) (fun j hj h => by
        by_cases e : j = i
        · subst e; omega
        · exact hI j (by omega) h)
      simp only [s_NextStop_l1, i_NextStop_l1, hi, decide_true, cond_true, idx_lt l i hn, Option.bind_some, hc, decide_false, cond_false, w64_nat i (by omega)]
      exact h5
theorem Next_eq (N : Nat) (l : List Int) (c : Int) (ha : l.length ≤ LIM) (hN : l.length < N) : ∃ p : Int × Int, s_NextStop N l c = some p ∧ i_NextStop N l c = some p ∧
    (p.2 = 0 → ∃ k, ∃ h : k < l.length, p.1 = l[k] ∧ l[k] > c ∧ VR l ∧ ∀ j, j < k → ∀ h : j < l.length, l[j] ≤ c) := by
  obtain ⟨r, h1, h2⟩ := RackCode_eq l ha c
  obtain ⟨h3, h4⟩ := h2 N hN
  by_cases hr : r = 0
  · subst hr
    rcases Next_l1_eq l c ha l.length 0 N (by omega) hN (fun j hj => by omega) with ⟨k, g1, g2, g3, g4, g5⟩ | ⟨g4, g5⟩
    · exact ⟨(l[k], 0), by simpa [s_NextStop, h3] using g4, by simpa [i_NextStop, h4] using g5, fun _ => ⟨k, g1, rfl, g2, (h1.1 rfl).1, g3⟩⟩
    · exact ⟨(0, 3), by simpa [s_NextStop, h3] using g4, by simpa [i_NextStop, h4] using g5, fun h => by simp at h⟩
  · have e : (r != 0) = true := by simpa using hr
    exact ⟨(0, r), by simp [s_NextStop, h3, e], by simp [i_NextStop, h4, e], fun h => absurd h hr⟩
end Go.Proofs.Ytkjccgkpieakpaa
