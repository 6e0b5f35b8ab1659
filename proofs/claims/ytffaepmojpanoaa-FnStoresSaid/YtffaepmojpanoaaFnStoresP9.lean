/-
  Plain lemmas on these functions. No conditions but those that each states.
-/
import Derived.Test.YtffaepmojpanoaaFnStoresP8
namespace Go.Proofs.Ytffaepmojpanoaa
set_option linter.unusedVariables false
set_option linter.unusedSimpArgs false
theorem DaysUntil_l1_eq (l : List SparePart) (w : List Int) (hv : okW l w) : ∀ (n i N : Nat) (b : Int), i + n = l.length → n < N →
    ∃ r : Int, ∀ K : Int → Option (Int × Int), s_DaysUntil_l1 K l w N b (i : Int) = K r ∧ i_DaysUntil_l1 K l w N b (i : Int) = K r := by
  intro n
  induction n with
  | zero =>
    intro i N b h1 h3
    obtain ⟨N, rfl⟩ := pos_fuel h3
    have hi : ¬ ((i : Int) < (l.length : Int)) := by omega
    exact ⟨b, fun K => by simp [s_DaysUntil_l1, i_DaysUntil_l1, hi]⟩
  | succ n ih =>
    intro i N b h1 h3
    obtain ⟨N, rfl⟩ := pos_fuel h3
    have h40 := hv.1.1
    have hw := hv.2.1
    have hi : (i : Int) < (l.length : Int) := by omega
    have hn : i < l.length := by omega
    have hn' : i < w.length := by omega
    have e : ∀ x y : Int, s_l00Max x y = some (imax x y) := by
      intro x y
      unfold s_l00Max imax
      by_cases h : x > y
      · have : ¬ y > x := by omega
        simp [h, this]
      · by_cases h2 : y > x
        · simp [h, h2]
        · obtain rfl : x = y := by omega
          simp
    by_cases hz : l[i].stock < w[i]
    · obtain ⟨r, h4⟩ := ih (i + 1) N (imax b l[i].days) (by omega) (by omega)
      have hz' : w[i] > l[i].stock := hz
      refine ⟨r, fun K => ?_⟩
      simp only [s_DaysUntil_l1, i_DaysUntil_l1, hi, decide_true, cond_true, idx_lt l i hn, idx_lt w i hn', Option.bind_some, w64_nat i (by omega), withK_eq, hz, hz', e]
      exact h4 K
    · obtain ⟨r, h4⟩ := ih (i + 1) N b (by omega) (by omega)
      have hz' : ¬ w[i] > l[i].stock := hz
      refine ⟨r, fun K => ?_⟩
      simp only [s_DaysUntil_l1, i_DaysUntil_l1, hi, decide_true, cond_true, idx_lt l i hn, idx_lt w i hn', Option.bind_some, w64_nat i (by omega), withK_eq, hz, hz', decide_false, cond_false]
      exact h4 K
theorem DaysUntil_eq (N : Nat) (l : List SparePart) (w : List Int) (ha : l.length ≤ LIM) (hw : w.length ≤ LIM) (hN : 2 * l.length + 100 < N) (hN2 : w.length < N) :
    ∃ p, s_DaysUntil N l w = some p ∧ i_DaysUntil N l w = some p := by
  obtain ⟨c, h1, h2, h3⟩ := Wants_eq N l w ha hw hN hN2
  by_cases hc : c = 0
  · obtain ⟨r, h4⟩ := DaysUntil_l1_eq l w (h1 hc) l.length 0 N 0 (by omega) (by omega)
    subst hc
    refine ⟨(r, 0), ?_, ?_⟩
    · simp only [s_DaysUntil, h2, Option.bind_some, bne_self_eq_false, cond_false, withK_eq]; exact (h4 _).1
    · simp only [i_DaysUntil, h3, Option.bind_some, bne_self_eq_false, cond_false, withK_eq]; exact (h4 _).2
  · have e : (c != 0) = true := by simpa using hc
    exact ⟨(0, c), by simp [s_DaysUntil, h2, e], by simp [i_DaysUntil, h3, e]⟩
end Go.Proofs.Ytffaepmojpanoaa
