/-
  Plain lemmas on these functions. No conditions but those that each states.
-/
import Derived.Test.YtdnnnakjhehfkaaDoorFnReplacementsP
namespace Go.Proofs.YtdnnnakjhehfkaaDoor
set_option linter.unusedVariables false
set_option linter.unusedSimpArgs false
theorem w_szSparePart_eq (x : SparePart) (left : Int) (h0 : 0 ≤ left) (h1 : left ≤ 1048576) (hx : x.name.length ≤ 9223372036854775807) :
    ∃ r, w_szSparePart x left = some r ∧ (r < 0 ∨ (0 ≤ r ∧ r ≤ left)) := by
  unfold w_szSparePart
  rw [w64_id (by omega) (by omega)]
  by_cases h : left - (x.name.length : Int) < 0
  · exact ⟨-1, by simp [h], .inl (by omega)⟩
  · exact ⟨left - (x.name.length : Int), by simp [h], .inr ⟨by omega, by omega⟩⟩
theorem w_szSparePartS_l1_eq (a : List SparePart) (ha : a.length ≤ LIM) (hw : ∀ x ∈ a, x.name.length ≤ 9223372036854775807) : ∀ (n i N : Nat) (left : Int), i + n = a.length → n < N → 0 ≤ left → left ≤ 1048576 →
    ∃ r, w_szSparePartS_l1 (fun l => some l) a N left (i : Int) = some r ∧ (r < 0 ∨ (0 ≤ r ∧ r ≤ left)) := by
  intro n
  induction n with
  | zero =>
    intro i N left h1 h3 h4 h5
    obtain ⟨N, rfl⟩ := pos_fuel h3
    have hi : ¬ ((i : Int) < (a.length : Int)) := by omega
    exact ⟨left, by simp only [w_szSparePartS_l1, hi, decide_false, cond_false], .inr ⟨h4, Int.le_refl _⟩⟩
  | succ n ih =>
    intro i N left h1 h3 h4 h5
    obtain ⟨N, rfl⟩ := pos_fuel h3
    have hi : (i : Int) < (a.length : Int) := by omega
    have hn : i < a.length := by omega
    have hl := ha
    unfold LIM at hl
    obtain ⟨r, hr, hr2⟩ := w_szSparePart_eq a[i] left h4 h5 (hw _ (List.getElem_mem hn))
    simp only [w_szSparePartS_l1, hi, decide_true, cond_true, idx_lt a i hn, Option.bind_some, hr, w64_nat i (by omega)]
    rcases hr2 with hr2 | ⟨hr2, hr3⟩
    · exact ⟨-1, by simp [hr2], .inl (by omega)⟩
    · have : ¬ r < 0 := by omega
      obtain ⟨r', h6, h7⟩ := ih (i + 1) N r (by omega) (by omega) hr2 (by omega)
      refine ⟨r', by simp only [this, decide_false, cond_false, h6], ?_⟩
      rcases h7 with h7 | h7
      · exact .inl h7
      · exact .inr ⟨h7.1, by omega⟩
theorem w_szSparePartS_eq {N : Nat} (a : List SparePart) (left : Int) (h0 : 0 ≤ left) (h1 : left ≤ 1048576) (hN : 1048576 < N) (ha : a.length ≤ 9223372036854775807) (hw : ∀ x ∈ a, x.name.length ≤ 9223372036854775807) :
    ∃ r, w_szSparePartS N a left = some r ∧ (r < 0 ∨ (0 ≤ r ∧ r ≤ left ∧ a.length ≤ 1048576)) := by
  unfold w_szSparePartS
  rw [w64_id (by omega) (by omega)]
  by_cases h : left - (a.length : Int) < 0
  · exact ⟨-1, by simp [h], .inl (by omega)⟩
  · obtain ⟨r, h2, h3⟩ := w_szSparePartS_l1_eq a (by unfold LIM; omega) hw a.length 0 N (left - a.length) (by omega) (by omega) (by omega) (by omega)
    refine ⟨r, by simp only [h, decide_false, cond_false, withK_eq]; exact h2, ?_⟩
    rcases h3 with h3 | h3
    · exact .inl h3
    · exact .inr ⟨h3.1, by omega, by omega⟩
theorem w_toSparePart_eq (x : SparePart) : w_toSparePart x = some x := rfl
theorem w_toSparePartS_l1_eq (k : (List SparePart) → Option (List SparePart)) (a : List SparePart) (ha : a.length ≤ LIM) : ∀ (n i N : Nat) (l : List SparePart), i + n = a.length → l.length = a.length → n < N →
    w_toSparePartS_l1 k a N l (i : Int) = k (l.take i ++ a.drop i) := by
  intro n
  induction n with
  | zero =>
    intro i N l h1 h2 h3
    obtain ⟨N, rfl⟩ := pos_fuel h3
    have hi : ¬ ((i : Int) < (a.length : Int)) := by omega
    have e1 : l.take i = l := List.take_of_length_le (by omega)
    have e2 : a.drop i = [] := List.drop_of_length_le (by omega)
    simp only [w_toSparePartS_l1, hi, decide_false, cond_false, e1, e2, List.append_nil]
  | succ n ih =>
    intro i N l h1 h2 h3
    obtain ⟨N, rfl⟩ := pos_fuel h3
    have hi : (i : Int) < (a.length : Int) := by omega
    have hn : i < a.length := by omega
    have hl : i < l.length := by omega
    unfold LIM at ha
    simp only [w_toSparePartS_l1, hi, decide_true, cond_true, idx_lt a i hn, idx_lt l i hl, Option.bind_some, w_toSparePart_eq, w64_nat i (by omega), Int.toNat_natCast]
    rw [ih (i + 1) N (l.set i a[i]) (by omega) (by simpa using h2) (by omega), take_set_drop l a i hl hn]
theorem w_toSparePartS_eq {N : Nat} (a : List SparePart) (ha : a.length ≤ LIM) (hN : a.length < N) : w_toSparePartS N a = some a := by
  unfold w_toSparePartS
  rw [mk_some _ _ ha]
  simp only [Option.bind_some, withK_eq]
  have h := w_toSparePartS_l1_eq (fun l => some l) a ha a.length 0 N (List.replicate a.length (SparePart.mk [] 0 0 0 0)) (by omega) (by simp) hN
  simpa using h
theorem w_eqSparePart_eq (x : SparePart) : w_eqSparePart x x = some true := by simp [w_eqSparePart]
theorem w_eqSparePartS_l1_eq (a : List SparePart) (ha : a.length ≤ LIM) : ∀ (n i N : Nat), i + n = a.length → n < N → w_eqSparePartS_l1 (some true) a a N (i : Int) = some true := by
  intro n
  induction n with
  | zero =>
    intro i N h1 h3
    obtain ⟨N, rfl⟩ := pos_fuel h3
    have hi : ¬ ((i : Int) < (a.length : Int)) := by omega
    simp only [w_eqSparePartS_l1, hi, decide_false, cond_false]
  | succ n ih =>
    intro i N h1 h3
    obtain ⟨N, rfl⟩ := pos_fuel h3
    have hi : (i : Int) < (a.length : Int) := by omega
    have hn : i < a.length := by omega
    unfold LIM at ha
    simp only [w_eqSparePartS_l1, hi, decide_true, cond_true, idx_lt a i hn, Option.bind_some, w_eqSparePart_eq, Bool.not_true, cond_false, w64_nat i (by omega)]
    exact ih (i + 1) N (by omega) (by omega)
theorem w_eqSparePartS_eq {N : Nat} (a : List SparePart) (ha : a.length ≤ LIM) (hN : a.length < N) : w_eqSparePartS N a a = some true := by
  unfold w_eqSparePartS
  simp only [bne_self_eq_false, cond_false, withK_eq]
  exact w_eqSparePartS_l1_eq a ha a.length 0 N (by omega) hN
end Go.Proofs.YtdnnnakjhehfkaaDoor
