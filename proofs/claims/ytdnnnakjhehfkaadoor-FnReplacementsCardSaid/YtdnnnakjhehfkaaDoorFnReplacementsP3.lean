/-
  Plain lemmas on these functions. No conditions but those that each states.
-/
import Derived.Test.YtdnnnakjhehfkaaDoorFnReplacementsP2
namespace Go.Proofs.YtdnnnakjhehfkaaDoor
set_option linter.unusedVariables false
set_option linter.unusedSimpArgs false
theorem SameParts_l1 (a b : List SparePart) (hab : a.length = b.length) (ha : a.length ≤ LIM) : ∀ (n i N : Nat), i + n = a.length → n < N →
    ∃ t, s_SameParts_l1 (some true) a b N (i : Int) = some t ∧ i_SameParts_l1 (some true) a b N (i : Int) = some t := by
  intro n
  induction n with
  | zero =>
    intro i N h1 h3
    obtain ⟨N, rfl⟩ := pos_fuel h3
    have hi : ¬ ((i : Int) < (a.length : Int)) := by omega
    exact ⟨true, by simp only [s_SameParts_l1, hi, decide_false, cond_false], by simp only [i_SameParts_l1, hi, decide_false, cond_false]⟩
  | succ n ih =>
    intro i N h1 h3
    obtain ⟨N, rfl⟩ := pos_fuel h3
    have hi : (i : Int) < (a.length : Int) := by omega
    have hn : i < a.length := by omega
    have hb : i < b.length := by omega
    unfold LIM at ha
    obtain ⟨t, h4, h5⟩ := ih (i + 1) N (by omega) (by omega)
    simp only [s_SameParts_l1, i_SameParts_l1, hi, decide_true, cond_true, idx_lt a i hn, idx_lt b i hb, Option.bind_some, w64_nat i (by omega), h4, h5]
    cases SparePart.beq a[i] b[i]
    · exact ⟨false, rfl, rfl⟩
    · exact ⟨t, rfl, rfl⟩
theorem SameParts_eq {N : Nat} (a b : List SparePart) (ha : a.length ≤ LIM) (hN : a.length < N) : ∃ t, s_SameParts N a b = some t ∧ i_SameParts N a b = some t := by
  unfold s_SameParts i_SameParts
  by_cases h : a.length = b.length
  · obtain ⟨t, h1, h2⟩ := SameParts_l1 a b h ha a.length 0 N (by omega) hN
    refine ⟨t, ?_, ?_⟩
    · simpa [h] using h1
    · simpa [h] using h2
  · have h' : ((a.length : Int) != (b.length : Int)) = true := by simp; omega
    exact ⟨false, by simp [h'], by simp [h']⟩
end Go.Proofs.YtdnnnakjhehfkaaDoor
