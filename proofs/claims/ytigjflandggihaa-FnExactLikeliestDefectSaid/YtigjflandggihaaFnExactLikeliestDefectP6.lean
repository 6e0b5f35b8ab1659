/-
  Plain lemmas on these functions. No conditions but those that each states.
-/
import Derived.Test.YtigjflandggihaaFnExactLikeliestDefectP5
namespace Go.Proofs.Ytigjflandggihaa
set_option linter.unusedVariables false
set_option linter.unusedSimpArgs false
theorem Lik_l1_eq (l : List Defect) (r : List Int) (hr : ∀ x ∈ r, 0 ≤ x ∧ x < (l.length : Int)) (ha : r.length ≤ LIM) : ∀ (n i : Nat) (b : Int), i + n = r.length → 0 ≤ b → b < l.length →
    ∃ z : Int, 0 ≤ z ∧ ∀ N, n < N → (∀ K, s_LikeliestDefect_l1 K l r N b (i : Int) = K z) ∧ ∀ K, i_LikeliestDefect_l1 K l r N b (i : Int) = K z := by
  intro n
  induction n with
  | zero =>
    intro i b h1 h2 h3
    have hi : ¬ ((i : Int) < (r.length : Int)) := by omega
    refine ⟨b, h2, fun N hN => ?_⟩
    obtain ⟨N, rfl⟩ := pos_fuel (by omega : 0 < N)
    exact ⟨fun K => by simp [s_LikeliestDefect_l1, hi], fun K => by simp [i_LikeliestDefect_l1, hi]⟩
  | succ n ih =>
    intro i b h1 h2 h3
    have hi : (i : Int) < (r.length : Int) := by omega
    have hn : i < r.length := by omega
    have la := ha
    unfold LIM at la
    obtain ⟨q1, q2⟩ := hr _ (List.getElem_mem hn)
    have eb : decide (b < 0) = false := by simp; omega
    by_cases hw : (l[r[i].toNat]'(by omega)).weight > (l[b.toNat]'(by omega)).weight
    · obtain ⟨z, hz, h4⟩ := ih (i + 1) r[i] (by omega) q1 q2
      refine ⟨z, hz, fun N hN => ?_⟩
      obtain ⟨N, rfl⟩ := pos_fuel (by omega : 0 < N)
      obtain ⟨h5, h6⟩ := h4 N (by omega)
      constructor
      · intro K
        simp only [s_LikeliestDefect_l1, hi, decide_true, cond_true, withK_eq, idx_lt r i hn, Option.bind_some, idx_int l _ q1 q2, idx_int l _ h2 h3, hw, w64_nat i (by omega), h5]
      · intro K
        simp only [i_LikeliestDefect_l1, hi, decide_true, cond_true, withK_eq, idx_lt r i hn, Option.bind_some, idx_int l _ q1 q2, idx_int l _ h2 h3, eb, orO_false, hw, w64_nat i (by omega), h6]
    · obtain ⟨z, hz, h4⟩ := ih (i + 1) b (by omega) h2 h3
      refine ⟨z, hz, fun N hN => ?_⟩
      obtain ⟨N, rfl⟩ := pos_fuel (by omega : 0 < N)
      obtain ⟨h5, h6⟩ := h4 N (by omega)
      constructor
      · intro K
        simp only [s_LikeliestDefect_l1, hi, decide_true, cond_true, withK_eq, idx_lt r i hn, Option.bind_some, idx_int l _ q1 q2, idx_int l _ h2 h3, hw, decide_false, cond_false, w64_nat i (by omega), h5]
      · intro K
        simp only [i_LikeliestDefect_l1, hi, decide_true, cond_true, withK_eq, idx_lt r i hn, Option.bind_some, idx_int l _ q1 q2, idx_int l _ h2 h3, eb, orO_false, hw, decide_false, cond_false, w64_nat i (by omega), h6]
theorem Likeliest_eq (N : Nat) (l : List Defect) (p : List Int) (s : Str) (ha : l.length ≤ LIM) (hp : p.length ≤ LIM) (hs : ∀ d ∈ l, d.signs.length ≤ 1048576) (hl : s.length ≤ LIM) (hN : p.length + s.length + 3 * l.length + 1048800 < N) :
    ∃ r, s_LikeliestDefect N l p s = some r ∧ i_LikeliestDefect N l p s = some r := by
  obtain ⟨c, h1, h2⟩ := CodeD_eq l p s ha hp hs hl
  obtain ⟨h3, h4⟩ := h2 N (by omega)
  by_cases hc : c = 0
  · obtain ⟨r, h5, h6, h7⟩ := Fit_eq l p s (h1 hc)
    obtain ⟨h8, h9⟩ := h7 N (by omega)
    have h10 := (h1 hc).1.1
    subst hc
    cases r with
    | nil =>
      obtain ⟨N, rfl⟩ := pos_fuel (by omega : 0 < N)
      refine ⟨(0, 3), ?_, ?_⟩
      · simp [s_LikeliestDefect, h3, h8]
      · simp only [i_LikeliestDefect, h4, Option.bind_some, bne_self_eq_false, cond_false, withK_eq, h9]
        rfl
    | cons x r =>
      obtain ⟨q1, q2⟩ := h6 x (by simp)
      obtain ⟨z, hz, h11⟩ := Lik_l1_eq l (x :: r) h6 (by unfold LIM; omega) r.length 1 x (by simp; omega) q1 q2
      have hz' : ¬ z < 0 := by omega
      simp only [List.length_cons] at h5
      have e1 : (((x :: r).length : Int) == 0) = false := by simp; omega
      have e2 : idx (x :: r) 0 = some x := rfl
      have e3 : (0 : Int) < (((x :: r).length : Nat) : Int) := by simp only [List.length_cons]; omega
      have e4 : w64 (0 + 1) = ((1 : Nat) : Int) := rfl
      refine ⟨(z, 0), ?_, ?_⟩
      · simp only [s_LikeliestDefect, h3, Option.bind_some, bne_self_eq_false, cond_false, h8, e1, e2, withK_eq]
        exact (h11 N (by omega)).1 _
      · obtain ⟨M, hM⟩ := pos_fuel (by omega : 0 < N)
        simp only [i_LikeliestDefect, h4, Option.bind_some, bne_self_eq_false, cond_false, withK_eq, h9]
        rw [hM]
        have e5 : decide ((-1 : Int) < 0) = true := rfl
        simp only [i_LikeliestDefect_l1, e3, decide_true, cond_true, withK_eq, e2, Option.bind_some, e5, orO_true, e4]
        rw [(h11 M (by omega)).2]
        simp only [hz', decide_false, cond_false]
  · have e : (c != 0) = true := by simpa using hc
    exact ⟨(0, c), by simp [s_LikeliestDefect, h3, e], by simp [i_LikeliestDefect, h4, e]⟩
theorem law_FnExactLikeliestDefect (a : List Defect) (b : List Int) (s : Str) (ha : wfL wfDefect a) (_ : wfL wfI64 b) (_ : wfStr s) : ∃ N, w_FnExactLikeliestDefect N a b s = some true := by
  obtain ⟨N, hN⟩ : ∃ N, N = 8000000 := ⟨_, rfl⟩
  refine ⟨N, ?_⟩
  obtain ⟨r1, h1, h2⟩ := w_szDefectS_eq (N := N) a 1048576 (by omega) (by omega) (by omega) ha.1 (fun x hx => ⟨(ha.2 x hx).1, (ha.2 x hx).2.2⟩)
  unfold w_FnExactLikeliestDefect
  rw [h1]
  by_cases hb1 : (b.length : Int) > 1048576
  · simp [hb1]
  by_cases hb2 : (s.length : Int) > 1048576
  · simp [hb2]
  rcases h2 with h2 | ⟨h2, h3, la, hs⟩
  · simp [h2]
  have h2' : ¬ r1 < 0 := by omega
  have la' : a.length ≤ LIM := by unfold LIM; omega
  have lb' : b.length ≤ LIM := by unfold LIM; omega
  obtain ⟨p, h7, h8⟩ := Likeliest_eq N a b s la' lb' hs (by unfold LIM; omega) (by omega)
  simp only [Option.bind_some, h2', hb1, hb2, decide_false, cond_false, w_toDefectS_eq a la' (by omega : a.length < N), w_toInt64S_eq b lb' (by omega : b.length < N), h7, h8, w_eqDefectS_eq a la' (by omega : a.length < N), w_eqInt64S_eq b lb' (by omega : b.length < N), bne_self_eq_false, Bool.not_true, orO_some, Bool.or_false]
end Go.Proofs.Ytigjflandggihaa
