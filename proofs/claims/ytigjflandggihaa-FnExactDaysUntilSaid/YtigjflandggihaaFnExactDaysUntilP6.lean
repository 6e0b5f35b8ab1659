/-
  Plain lemmas on these functions. No conditions but those that each states.
-/
import Derived.Test.YtigjflandggihaaFnExactDaysUntilP5
namespace Go.Proofs.Ytigjflandggihaa
set_option linter.unusedVariables false
set_option linter.unusedSimpArgs false
theorem Wants_l1_eq (ks ki : Option Int) (c : Int) (hs : ks = some c) (hi0 : ki = some c) (w : List Int) (ha : w.length ≤ LIM) : ∀ (n i N : Nat), i + n = w.length → n < N →
    (s_l24Wants_l1 ks w N (i : Int) = some c ∨ s_l24Wants_l1 ks w N (i : Int) = some 2) ∧ s_l24Wants_l1 ks w N (i : Int) = i_numbersCode_l1 ki w N (i : Int) := by
  subst hs hi0
  intro n
  induction n with
  | zero =>
    intro i N h1 h3
    obtain ⟨N, rfl⟩ := pos_fuel h3
    have hi : ¬ ((i : Int) < (w.length : Int)) := by omega
    simp [s_l24Wants_l1, i_numbersCode_l1, hi]
  | succ n ih =>
    intro i N h1 h3
    obtain ⟨N, rfl⟩ := pos_fuel h3
    have hi : (i : Int) < (w.length : Int) := by omega
    have hn : i < w.length := by omega
    unfold LIM at ha
    obtain ⟨h4, h5⟩ := ih (i + 1) N (by omega) (by omega)
    simp only [s_l24Wants_l1, i_numbersCode_l1, hi, decide_true, cond_true, idx_lt w i hn, Option.bind_some, s_l24Many_eq, i_between_eq, w64_nat i (by omega)]
    cases inr w[i] 0 100000
    · exact ⟨.inr rfl, rfl⟩
    · exact ⟨h4, h5⟩
/-- numbers behind a place are in range if the code is 0 -/
theorem Wants_l1_good (w : List Int) (ha : w.length ≤ LIM) : ∀ (n i N : Nat), i + n = w.length → n < N → s_l24Wants_l1 (some 0) w N (i : Int) = some 0 → ∀ j, i ≤ j → ∀ h : j < w.length, 0 ≤ w[j] ∧ w[j] ≤ 100000 := by
  intro n
  induction n with
  | zero => intro i N h1 h3 _ j h4 h5; omega
  | succ n ih =>
    intro i N h1 h3 h
    obtain ⟨N, rfl⟩ := pos_fuel h3
    have hi : (i : Int) < (w.length : Int) := by omega
    have hn : i < w.length := by omega
    have la := ha
    unfold LIM at la
    simp only [s_l24Wants_l1, hi, decide_true, cond_true, idx_lt w i hn, Option.bind_some, s_l24Many_eq, w64_nat i (by omega)] at h
    cases e : inr w[i] 0 100000
    · rw [e] at h; simp at h
    · rw [e] at h
      intro j hj hj2
      by_cases hji : j = i
      · subst hji; exact inr_iff.1 e
      · exact ih (i + 1) N (by omega) (by omega) h j (by omega) hj2
def okW (l : List SparePart) (w : List Int) : Prop := VP l ∧ w.length = l.length ∧ ∀ j, ∀ h : j < w.length, 0 ≤ w[j] ∧ w[j] ≤ 100000
theorem Wants_eq (N : Nat) (l : List SparePart) (w : List Int) (ha : l.length ≤ LIM) (hw : w.length ≤ LIM) (hN : 2 * l.length + 100 < N) (hN2 : w.length < N) :
    ∃ c : Int, (c = 0 → okW l w) ∧ s_l24Wants N l w = some c ∧ i_numbersCode N l w = some c := by
  obtain ⟨t, h1, h2⟩ := ValidParts_eq l ha
  obtain ⟨h3, h4⟩ := h2 N hN
  cases t
  · exact ⟨1, fun h => by simp at h, by simp [s_l24Wants, h3], by simp [i_numbersCode, h4]⟩
  · by_cases hlen : w.length = l.length
    · have e : ((w.length : Int) != (l.length : Int)) = false := by simp [hlen]
      obtain ⟨h5, h6⟩ := Wants_l1_eq (some 0) (some 0) 0 rfl rfl w hw w.length 0 N (by omega) hN2
      rw [show ((0 : Nat) : Int) = 0 from rfl] at h5 h6
      have hs : s_l24Wants N l w = s_l24Wants_l1 (some 0) w N 0 := by simp only [s_l24Wants, h3, Option.bind_some, Bool.not_true, cond_false, e, withK_eq]
      have hi : i_numbersCode N l w = s_l24Wants_l1 (some 0) w N 0 := by rw [h6]; simp only [i_numbersCode, h4, Option.bind_some, Bool.not_true, cond_false, e, withK_eq]
      rcases h5 with h5 | h5
      · refine ⟨0, fun _ => ⟨h1 rfl, hlen, fun j h => Wants_l1_good w hw w.length 0 N (by omega) hN2 h5 j (by omega) h⟩, by rw [hs, h5], by rw [hi, h5]⟩
      · exact ⟨2, fun h => by simp at h, by rw [hs, h5], by rw [hi, h5]⟩
    · have e : ((w.length : Int) != (l.length : Int)) = true := by simp; omega
      obtain ⟨h5, _⟩ := Wants_l1_eq (some 2) (some 2) 2 rfl rfl w hw w.length 0 N (by omega) hN2
      rw [show ((0 : Nat) : Int) = 0 from rfl] at h5
      refine ⟨2, fun h => by simp at h, ?_, ?_⟩
      · simp only [s_l24Wants, h3, Option.bind_some, Bool.not_true, cond_false, e, cond_true, withK_eq]
        rcases h5 with h5 | h5 <;> exact h5
      · simp only [i_numbersCode, h4, Option.bind_some, Bool.not_true, cond_false, e, cond_true]
end Go.Proofs.Ytigjflandggihaa
