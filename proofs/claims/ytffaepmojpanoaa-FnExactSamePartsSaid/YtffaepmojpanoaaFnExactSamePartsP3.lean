/-
  Plain lemmas on these functions. No conditions but those that each states.
-/
import Derived.Test.YtffaepmojpanoaaFnExactSamePartsP2
namespace Go.Proofs.Ytffaepmojpanoaa
set_option linter.unusedVariables false
set_option linter.unusedSimpArgs false
theorem SameParts_l1 (a b : List SparePart) (hab : a.length = b.length) (ha : a.length ≤ LIM) : ∀ (n i N : Nat), i + n = a.length → n < N →
    ∃ t, s_SameParts_l1 (some true) a b N (i : Int) = some t ∧ i_SameParts_l1 (some true) a b N (i : Int) = some t := by
  intro n
  induction n with
  | zero =>
    intro i N h1 h3
    obtain ⟨N, rfl⟩ := pos_fuel h3
    have hi : ¬ ((i : Int) < (a.length : Int)) := by omega
    exact ⟨true, by simp only [s_SameParts_l1, hi, decide_false, cond_false], by simp only [i_SameParts_l1, hi, decide_false, cond_false]⟩
  | succ n ih =>
    intro i N h1 h3
    obtain ⟨N, rfl⟩ := pos_fuel h3
    have hi : (i : Int) < (a.length : Int) := by omega
    have hn : i < a.length := by omega
    have hb : i < b.length := by omega
    unfold LIM at ha
    obtain ⟨t, h4, h5⟩ := ih (i + 1) N (by omega) (by omega)
    simp only [s_SameParts_l1, i_SameParts_l1, hi, decide_true, cond_true, idx_lt a i hn, idx_lt b i hb, Option.bind_some, w64_nat i (by omega), h4, h5]
    cases SparePart.beq a[i] b[i]
    · exact ⟨false, rfl, rfl⟩
    · exact ⟨t, rfl, rfl⟩
theorem SameParts_eq {N : Nat} (a b : List SparePart) (ha : a.length ≤ LIM) (hN : a.length < N) : ∃ t, s_SameParts N a b = some t ∧ i_SameParts N a b = some t := by
  unfold s_SameParts i_SameParts
  by_cases h : a.length = b.length
  · obtain ⟨t, h1, h2⟩ := SameParts_l1 a b h ha a.length 0 N (by omega) hN
    refine ⟨t, ?_, ?_⟩
    · simpa [h] using h1
    · simpa [h] using h2
  · have h' : ((a.length : Int) != (b.length : Int)) = true := by simp; omega
    exact ⟨false, by simp [h'], by simp [h']⟩
theorem law_FnExactSameParts (a b : List SparePart) (ha : wfL wfSparePart a) (hb : wfL wfSparePart b) : ∃ N, w_FnExactSameParts N a b = some true := by
  refine ⟨1048578, ?_⟩
  obtain ⟨r1, h1, h2⟩ := w_szSparePartS_eq (N := 1048578) a 1048576 (by omega) (by omega) (by omega) ha.1 (fun x hx => (ha.2 x hx).1)
  unfold w_FnExactSameParts
  rw [h1]
  rcases h2 with h2 | ⟨h2, h3, la⟩
  · simp [h2]
  have h2' : ¬ r1 < 0 := by omega
  obtain ⟨r2, h4, h5⟩ := w_szSparePartS_eq (N := 1048578) b r1 h2 h3 (by omega) hb.1 (fun x hx => (hb.2 x hx).1)
  simp only [Option.bind_some, h2', decide_false, cond_false, h4]
  rcases h5 with h5 | ⟨h5, h6, lb⟩
  · simp [h5]
  have h5' : ¬ r2 < 0 := by omega
  have la' : a.length ≤ LIM := by unfold LIM; omega
  have lb' : b.length ≤ LIM := by unfold LIM; omega
  obtain ⟨t, h7, h8⟩ := SameParts_eq (N := 1048578) a b la' (by omega)
  simp only [h5', Option.bind_some, decide_false, cond_false, w_toSparePartS_eq a la' (by omega : a.length < 1048578), w_toSparePartS_eq b lb' (by omega : b.length < 1048578), h7, h8, w_eqSparePartS_eq a la' (by omega : a.length < 1048578), w_eqSparePartS_eq b lb' (by omega : b.length < 1048578), bne_self_eq_false, Bool.not_true]
end Go.Proofs.Ytffaepmojpanoaa
