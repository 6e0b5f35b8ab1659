/-
  Plain lemmas on these functions. No conditions but those that each states.
-/
import Derived.Test.YtigjflandggihaaFnExactSameSignsP4
namespace Go.Proofs.Ytigjflandggihaa
set_option linter.unusedVariables false
set_option linter.unusedSimpArgs false
theorem SameSigns_eq (N : Nat) (l : List Defect) (p : List Int) (ha : l.length ≤ LIM) (hp : p.length ≤ LIM) (hs : ∀ d ∈ l, d.signs.length ≤ 1048576) (hN : p.length + 3 * l.length + 1048800 < N) :
    ∃ r, s_SameSigns N l p = some r ∧ i_SameSigns N l p = some r := by
  obtain ⟨t, _, h2⟩ := ValidDefects_eq l p ha hp hs
  obtain ⟨h3, h4⟩ := h2 N (by omega)
  obtain ⟨o, h5, h6⟩ := Same_eq l ha
  obtain ⟨h7, h8⟩ := h6 N (by omega)
  simp only [s_SameSigns, i_SameSigns, h3, h4, h7, h8, Option.bind_some]
  cases t
  · exact ⟨_, rfl, rfl⟩
  · cases o with
    | none => exact ⟨_, rfl, rfl⟩
    | some x =>
      have := h5 x rfl
      have e : ¬ x.1 < 0 := by omega
      exact ⟨(x.1, x.2, 0), by simp [e], by simp⟩
theorem law_FnExactSameSigns (a : List Defect) (b : List Int) (ha : wfL wfDefect a) (_ : wfL wfI64 b) : ∃ N, w_FnExactSameSigns N a b = some true := by
  obtain ⟨N, hN⟩ : ∃ N, N = 8000000 := ⟨_, rfl⟩
  refine ⟨N, ?_⟩
  obtain ⟨r1, h1, h2⟩ := w_szDefectS_eq (N := N) a 1048576 (by omega) (by omega) (by omega) ha.1 (fun x hx => ⟨(ha.2 x hx).1, (ha.2 x hx).2.2⟩)
  unfold w_FnExactSameSigns
  rw [h1]
  by_cases hb1 : (b.length : Int) > 1048576
  · simp [hb1]
  rcases h2 with h2 | ⟨h2, h3, la, hs⟩
  · simp [h2]
  have h2' : ¬ r1 < 0 := by omega
  have la' : a.length ≤ LIM := by unfold LIM; omega
  have lb' : b.length ≤ LIM := by unfold LIM; omega
  obtain ⟨p, h7, h8⟩ := SameSigns_eq N a b la' lb' hs (by omega)
  simp only [Option.bind_some, h2', hb1, decide_false, cond_false, w_toDefectS_eq a la' (by omega : a.length < N), w_toInt64S_eq b lb' (by omega : b.length < N), h7, h8, w_eqDefectS_eq a la' (by omega : a.length < N), w_eqInt64S_eq b lb' (by omega : b.length < N), bne_self_eq_false, Bool.not_true, orO_some, Bool.or_false]
end Go.Proofs.Ytigjflandggihaa
