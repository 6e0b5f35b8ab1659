/-
  Plain lemmas on these functions. No conditions but those that each states.
-/
import Derived.Test.YtigjflandggihaaFnExactDaysUntilP4
namespace Go.Proofs.Ytigjflandggihaa
set_option linter.unusedVariables false
set_option linter.unusedSimpArgs false
theorem idx_set {α : Type} (l : List α) (i : Nat) (x : α) (h : i < l.length) : idx (l.set i x) (i : Int) = some x := by
  rw [idx_nat, List.getElem?_set_self h]
/-! ## []int64 -/
theorem w_toInt64S_l1_eq (k : (List Int) → Option (List Int)) (a : List Int) (ha : a.length ≤ LIM) : ∀ (n i N : Nat) (l : List Int), i + n = a.length → l.length = a.length → n < N →
    w_toInt64S_l1 k a N l (i : Int) = k (l.take i ++ a.drop i) := by
  intro n
  induction n with
  | zero =>
    intro i N l h1 h2 h3
    obtain ⟨N, rfl⟩ := pos_fuel h3
    have hi : ¬ ((i : Int) < (a.length : Int)) := by omega
    have e1 : l.take i = l := List.take_of_length_le (by omega)
    have e2 : a.drop i = [] := List.drop_of_length_le (by omega)
    simp only [w_toInt64S_l1, hi, decide_false, cond_false, e1, e2, List.append_nil]
  | succ n ih =>
    intro i N l h1 h2 h3
    obtain ⟨N, rfl⟩ := pos_fuel h3
    have hi : (i : Int) < (a.length : Int) := by omega
    have hn : i < a.length := by omega
    have hl : i < l.length := by omega
    unfold LIM at ha
    simp only [w_toInt64S_l1, hi, decide_true, cond_true, idx_lt a i hn, idx_lt l i hl, Option.bind_some, w64_nat i (by omega), Int.toNat_natCast]
    rw [ih (i + 1) N (l.set i a[i]) (by omega) (by simpa using h2) (by omega), take_set_drop l a i hl hn]
theorem w_toInt64S_eq {N : Nat} (a : List Int) (ha : a.length ≤ LIM) (hN : a.length < N) : w_toInt64S N a = some a := by
  unfold w_toInt64S
  rw [mk_some _ _ ha]
  simp only [Option.bind_some, withK_eq]
  have h := w_toInt64S_l1_eq (fun l => some l) a ha a.length 0 N (List.replicate a.length 0) (by omega) (by simp) hN
  simpa using h
theorem w_eqInt64S_l1_eq (a : List Int) (ha : a.length ≤ LIM) : ∀ (n i N : Nat), i + n = a.length → n < N → w_eqInt64S_l1 (some true) a a N (i : Int) = some true := by
  intro n
  induction n with
  | zero =>
    intro i N h1 h3
    obtain ⟨N, rfl⟩ := pos_fuel h3
    have hi : ¬ ((i : Int) < (a.length : Int)) := by omega
    simp only [w_eqInt64S_l1, hi, decide_false, cond_false]
  | succ n ih =>
    intro i N h1 h3
    obtain ⟨N, rfl⟩ := pos_fuel h3
    have hi : (i : Int) < (a.length : Int) := by omega
    have hn : i < a.length := by omega
    unfold LIM at ha
    simp only [w_eqInt64S_l1, hi, decide_true, cond_true, idx_lt a i hn, Option.bind_some, bne_self_eq_false, cond_false, w64_nat i (by omega)]
    exact ih (i + 1) N (by omega) (by omega)
theorem w_eqInt64S_eq {N : Nat} (a : List Int) (ha : a.length ≤ LIM) (hN : a.length < N) : w_eqInt64S N a a = some true := by
  unfold w_eqInt64S
  simp only [bne_self_eq_false, cond_false, withK_eq]
  exact w_eqInt64S_l1_eq a ha a.length 0 N (by omega) hN
/-! ## marks of texts -/
end Go.Proofs.Ytigjflandggihaa
