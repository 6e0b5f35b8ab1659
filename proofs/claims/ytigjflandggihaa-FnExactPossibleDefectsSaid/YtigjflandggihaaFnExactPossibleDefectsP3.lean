/-
  Plain lemmas on these functions. No conditions but those that each states.
-/
import Derived.Test.YtigjflandggihaaFnExactPossibleDefectsP2
namespace Go.Proofs.Ytigjflandggihaa
set_option linter.unusedVariables false
set_option linter.unusedSimpArgs false
theorem w_toDefect_eq (x : Defect) : w_toDefect x = some x := rfl
theorem w_toDefectS_l1_eq (k : (List Defect) → Option (List Defect)) (a : List Defect) (ha : a.length ≤ LIM) : ∀ (n i N : Nat) (l : List Defect), i + n = a.length → l.length = a.length → n < N →
    w_toDefectS_l1 k a N l (i : Int) = k (l.take i ++ a.drop i) := by
  intro n
  induction n with
  | zero =>
    intro i N l h1 h2 h3
    obtain ⟨N, rfl⟩ := pos_fuel h3
    have hi : ¬ ((i : Int) < (a.length : Int)) := by omega
    have e1 : l.take i = l := List.take_of_length_le (by omega)
    have e2 : a.drop i = [] := List.drop_of_length_le (by omega)
    simp only [w_toDefectS_l1, hi, decide_false, cond_false, e1, e2, List.append_nil]
  | succ n ih =>
    intro i N l h1 h2 h3
    obtain ⟨N, rfl⟩ := pos_fuel h3
    have hi : (i : Int) < (a.length : Int) := by omega
    have hn : i < a.length := by omega
    have hl : i < l.length := by omega
    unfold LIM at ha
    simp only [w_toDefectS_l1, hi, decide_true, cond_true, idx_lt a i hn, idx_lt l i hl, Option.bind_some, w_toDefect_eq, w64_nat i (by omega), Int.toNat_natCast]
    rw [ih (i + 1) N (l.set i a[i]) (by omega) (by simpa using h2) (by omega), take_set_drop l a i hl hn]
theorem w_toDefectS_eq {N : Nat} (a : List Defect) (ha : a.length ≤ LIM) (hN : a.length < N) : w_toDefectS N a = some a := by
  unfold w_toDefectS
  rw [mk_some _ _ ha]
  simp only [Option.bind_some, withK_eq]
  have h := w_toDefectS_l1_eq (fun l => some l) a ha a.length 0 N (List.replicate a.length (Defect.mk [] 0 [])) (by omega) (by simp) hN
  simpa using h
theorem w_eqDefect_eq (x : Defect) : w_eqDefect x x = some true := by simp [w_eqDefect]
theorem w_eqDefectS_l1_eq (a : List Defect) (ha : a.length ≤ LIM) : ∀ (n i N : Nat), i + n = a.length → n < N → w_eqDefectS_l1 (some true) a a N (i : Int) = some true := by
  intro n
  induction n with
  | zero =>
    intro i N h1 h3
    obtain ⟨N, rfl⟩ := pos_fuel h3
    have hi : ¬ ((i : Int) < (a.length : Int)) := by omega
    simp only [w_eqDefectS_l1, hi, decide_false, cond_false]
  | succ n ih =>
    intro i N h1 h3
    obtain ⟨N, rfl⟩ := pos_fuel h3
    have hi : (i : Int) < (a.length : Int) := by omega
    have hn : i < a.length := by omega
    unfold LIM at ha
    simp only [w_eqDefectS_l1, hi, decide_true, cond_true, idx_lt a i hn, Option.bind_some, w_eqDefect_eq, Bool.not_true, cond_false, w64_nat i (by omega)]
    exact ih (i + 1) N (by omega) (by omega)
theorem w_eqDefectS_eq {N : Nat} (a : List Defect) (ha : a.length ≤ LIM) (hN : a.length < N) : w_eqDefectS N a a = some true := by
  unfold w_eqDefectS
  simp only [bne_self_eq_false, cond_false, withK_eq]
  exact w_eqDefectS_l1_eq a ha a.length 0 N (by omega) hN
theorem idx_set {α : Type} (l : List α) (i : Nat) (x : α) (h : i < l.length) : idx (l.set i x) (i : Int) = some x := by
  rw [idx_nat, List.getElem?_set_self h]
/-! ## []int64 -/
theorem w_toInt64S_l1_eq (k : (List Int) → Option (List Int)) (a : List Int) (ha : a.length ≤ LIM) : ∀ (n i N : Nat) (l : List Int), i + n = a.length → l.length = a.length → n < N →
    w_toInt64S_l1 k a N l (i : Int) = k (l.take i ++ a.drop i) := by
  intro n
  induction n with
  | zero =>
    intro i N l h1 h2 h3
    obtain ⟨N, rfl⟩ := pos_fuel h3
    have hi : ¬ ((i : Int) < (a.length : Int)) := by omega
    have e1 : l.take i = l := List.take_of_length_le (by omega)
    have e2 : a.drop i = [] := List.drop_of_length_le (by omega)
    simp only [w_toInt64S_l1, hi, decide_false, cond_false, e1, e2, List.append_nil]
  | succ n ih =>
    intro i N l h1 h2 h3
    obtain ⟨N, rfl⟩ := pos_fuel h3
    have hi : (i : Int) < (a.length : Int) := by omega
    have hn : i < a.length := by omega
    have hl : i < l.length := by omega
    unfold LIM at ha
    simp only [w_toInt64S_l1, hi, decide_true, cond_true, idx_lt a i hn, idx_lt l i hl, Option.bind_some, w64_nat i (by omega), Int.toNat_natCast]
    rw [ih (i + 1) N (l.set i a[i]) (by omega) (by simpa using h2) (by omega), take_set_drop l a i hl hn]
theorem w_toInt64S_eq {N : Nat} (a : List Int) (ha : a.length ≤ LIM) (hN : a.length < N) : w_toInt64S N a = some a := by
  unfold w_toInt64S
  rw [mk_some _ _ ha]
  simp only [Option.bind_some, withK_eq]
  have h := w_toInt64S_l1_eq (fun l => some l) a ha a.length 0 N (List.replicate a.length 0) (by omega) (by simp) hN
  simpa using h
theorem w_eqInt64S_l1_eq (a : List Int) (ha : a.length ≤ LIM) : ∀ (n i N : Nat), i + n = a.length → n < N → w_eqInt64S_l1 (some true) a a N (i : Int) = some true := by
  intro n
  induction n with
  | zero =>
    intro i N h1 h3
    obtain ⟨N, rfl⟩ := pos_fuel h3
    have hi : ¬ ((i : Int) < (a.length : Int)) := by omega
    simp only [w_eqInt64S_l1, hi, decide_false, cond_false]
  | succ n ih =>
    intro i N h1 h3
    obtain ⟨N, rfl⟩ := pos_fuel h3
    have hi : (i : Int) < (a.length : Int) := by omega
    have hn : i < a.length := by omega
    unfold LIM at ha
    simp only [w_eqInt64S_l1, hi, decide_true, cond_true, idx_lt a i hn, Option.bind_some, bne_self_eq_false, cond_false, w64_nat i (by omega)]
    exact ih (i + 1) N (by omega) (by omega)
theorem w_eqInt64S_eq {N : Nat} (a : List Int) (ha : a.length ≤ LIM) (hN : a.length < N) : w_eqInt64S N a a = some true := by
  unfold w_eqInt64S
  simp only [bne_self_eq_false, cond_false, withK_eq]
  exact w_eqInt64S_l1_eq a ha a.length 0 N (by omega) hN
/-! ## marks of texts -/


theorem w_szDefect_eq (x : Defect) (left : Int) (h0 : 0 ≤ left) (h1 : left ≤ 1048576) (hx : x.name.length ≤ 9223372036854775807) (hy : x.signs.length ≤ 9223372036854775807) :
    ∃ r, w_szDefect x left = some r ∧ (r < 0 ∨ (0 ≤ r ∧ r ≤ left ∧ x.name.length ≤ 1048576 ∧ x.signs.length ≤ 1048576)) := by
  unfold w_szDefect
  rw [w64_id (by omega) (by omega)]
  by_cases h : left - (x.name.length : Int) < 0
  · exact ⟨-1, by simp [h], .inl (by omega)⟩
  · rw [w64_id (by omega) (by omega)]
    by_cases h2 : left - (x.name.length : Int) - (x.signs.length : Int) < 0
    · exact ⟨-1, by simp [h, h2], .inl (by omega)⟩
    · exact ⟨left - (x.name.length : Int) - (x.signs.length : Int), by simp [h, h2], .inr ⟨by omega, by omega, by omega, by omega⟩⟩
theorem w_szDefectS_l1_eq (a : List Defect) (ha : a.length ≤ LIM) (hw : ∀ x ∈ a, x.name.length ≤ 9223372036854775807 ∧ x.signs.length ≤ 9223372036854775807) : ∀ (n i N : Nat) (left : Int), i + n = a.length → n < N → 0 ≤ left → left ≤ 1048576 →
    ∃ r, w_szDefectS_l1 (fun l => some l) a N left (i : Int) = some r ∧ (r < 0 ∨ (0 ≤ r ∧ r ≤ left ∧ ∀ j, i ≤ j → ∀ h : j < a.length, a[j].signs.length ≤ 1048576)) := by
  intro n
  induction n with
  | zero =>
    intro i N left h1 h3 h4 h5
    obtain ⟨N, rfl⟩ := pos_fuel h3
    have hi : ¬ ((i : Int) < (a.length : Int)) := by omega
    exact ⟨left, by simp only [w_szDefectS_l1, hi, decide_false, cond_false], .inr ⟨h4, Int.le_refl _, fun j h6 h7 => by omega⟩⟩
  | succ n ih =>
    intro i N left h1 h3 h4 h5
    obtain ⟨N, rfl⟩ := pos_fuel h3
    have hi : (i : Int) < (a.length : Int) := by omega
    have hn : i < a.length := by omega
    have hl := ha
    unfold LIM at hl
    obtain ⟨hw1, hw2⟩ := hw _ (List.getElem_mem hn)
    obtain ⟨r, hr, hr2⟩ := w_szDefect_eq a[i] left h4 h5 hw1 hw2
    simp only [w_szDefectS_l1, hi, decide_true, cond_true, idx_lt a i hn, Option.bind_some, hr, w64_nat i (by omega)]
    rcases hr2 with hr2 | ⟨hr2, hr3, hr4, hr5⟩
    · exact ⟨-1, by simp [hr2], .inl (by omega)⟩
    · have : ¬ r < 0 := by omega
      obtain ⟨r', h6, h7⟩ := ih (i + 1) N r (by omega) (by omega) hr2 (by omega)
      refine ⟨r', by simp only [this, decide_false, cond_false, h6], ?_⟩
      rcases h7 with h7 | ⟨h7, h8, h9⟩
      · exact .inl h7
      · refine .inr ⟨h7, by omega, fun j hj hj2 => ?_⟩
        by_cases e : j = i
        · subst e; exact hr5
        · exact h9 j (by omega) hj2
theorem w_szDefectS_eq {N : Nat} (a : List Defect) (left : Int) (h0 : 0 ≤ left) (h1 : left ≤ 1048576) (hN : 1048576 < N) (ha : a.length ≤ 9223372036854775807) (hw : ∀ x ∈ a, x.name.length ≤ 9223372036854775807 ∧ x.signs.length ≤ 9223372036854775807) :
    ∃ r, w_szDefectS N a left = some r ∧ (r < 0 ∨ (0 ≤ r ∧ r ≤ left ∧ a.length ≤ 1048576 ∧ ∀ x ∈ a, x.signs.length ≤ 1048576)) := by
  unfold w_szDefectS
  rw [w64_id (by omega) (by omega)]
  by_cases h : left - (a.length : Int) < 0
  · exact ⟨-1, by simp [h], .inl (by omega)⟩
  · obtain ⟨r, h2, h3⟩ := w_szDefectS_l1_eq a (by unfold LIM; omega) hw a.length 0 N (left - a.length) (by omega) (by omega) (by omega) (by omega)
    refine ⟨r, by simp only [h, decide_false, cond_false, withK_eq]; exact h2, ?_⟩
    rcases h3 with h3 | h3
    · exact .inl h3
    · exact .inr ⟨h3.1, by omega, by omega, fun x hx => by
        obtain ⟨j, h4, rfl⟩ := List.getElem_of_mem hx
        exact h3.2.2 j (by omega) h4⟩
end Go.Proofs.Ytigjflandggihaa
