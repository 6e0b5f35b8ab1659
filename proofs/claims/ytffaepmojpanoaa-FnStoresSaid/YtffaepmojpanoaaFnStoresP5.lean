/-
  Plain lemmas on these functions. No conditions but those that each states.
-/
import Derived.Test.YtffaepmojpanoaaFnStoresP4
namespace Go.Proofs.Ytffaepmojpanoaa
set_option linter.unusedVariables false
set_option linter.unusedSimpArgs false
theorem idx_set {α : Type} (l : List α) (i : Nat) (x : α) (h : i < l.length) : idx (l.set i x) (i : Int) = some x := by
  rw [idx_nat, List.getElem?_set_self h]
/-! ## []int64 -/
theorem w_toInt64S_l1_eq (k : (List Int) → Option (List Int)) (a : List Int) (ha : a.length ≤ LIM) : ∀ (n i N : Nat) (l : List Int), i + n = a.length → l.length = a.length → n < N →
    w_toInt64S_l1 k a N l (i : Int) = k (l.take i ++ a.drop i) := by
  intro n
  induction n with
  | zero =>
    intro i N l h1 h2 h3
    obtain ⟨N, rfl⟩ := pos_fuel h3
    have hi : ¬ ((i : Int) < (a.length : Int)) := by omega
    have e1 : l.take i = l := List.take_of_length_le (by omega)
    have e2 : a.drop i = [] := List.drop_of_length_le (by omega)
    simp only [w_toInt64S_l1, hi, decide_false, cond_false, e1, e2, List.append_nil]
  | succ n ih =>
    intro i N l h1 h2 h3
    obtain ⟨N, rfl⟩ := pos_fuel h3
    have hi : (i : Int) < (a.length : Int) := by omega
    have hn : i < a.length := by omega
    have hl : i < l.length := by omega
    unfold LIM at ha
    simp only [w_toInt64S_l1, hi, decide_true, cond_true, idx_lt a i hn, idx_lt l i hl, Option.bind_some, w64_nat i (by omega), Int.toNat_natCast]
    rw [ih (i + 1) N (l.set i a[i]) (by omega) (by simpa using h2) (by omega), take_set_drop l a i hl hn]
theorem w_toInt64S_eq {N : Nat} (a : List Int) (ha : a.length ≤ LIM) (hN : a.length < N) : w_toInt64S N a = some a := by
  unfold w_toInt64S
  rw [mk_some _ _ ha]
  simp only [Option.bind_some, withK_eq]
  have h := w_toInt64S_l1_eq (fun l => some l) a ha a.length 0 N (List.replicate a.length 0) (by omega) (by simp) hN
  simpa using h
theorem w_eqInt64S_l1_eq (a : List Int) (ha : a.length ≤ LIM) : ∀ (n i N : Nat), i + n = a.length → n < N → w_eqInt64S_l1 (some true) a a N (i : Int) = some true := by
  intro n
  induction n with
  | zero =>
    intro i N h1 h3
    obtain ⟨N, rfl⟩ := pos_fuel h3
    have hi : ¬ ((i : Int) < (a.length : Int)) := by omega
    simp only [w_eqInt64S_l1, hi, decide_false, cond_false]
  | succ n ih =>
    intro i N h1 h3
    obtain ⟨N, rfl⟩ := pos_fuel h3
    have hi : (i : Int) < (a.length : Int) := by omega
    have hn : i < a.length := by omega
    unfold LIM at ha
    simp only [w_eqInt64S_l1, hi, decide_true, cond_true, idx_lt a i hn, Option.bind_some, bne_self_eq_false, cond_false, w64_nat i (by omega)]
    exact ih (i + 1) N (by omega) (by omega)
theorem w_eqInt64S_eq {N : Nat} (a : List Int) (ha : a.length ≤ LIM) (hN : a.length < N) : w_eqInt64S N a a = some true := by
  unfold w_eqInt64S
  simp only [bne_self_eq_false, cond_false, withK_eq]
  exact w_eqInt64S_l1_eq a ha a.length 0 N (by omega) hN
theorem w_markInt64S_l1_eq : ∀ (n i N : Nat) (l : List Int) (k : Int), l.length ≤ LIM → i + n = l.length → n < N → 0 ≤ k → k + n ≤ 4611686018427387904 →
    ∃ l', l'.length = l.length ∧ l'.take i = l.take i ∧ (∀ K, w_markInt64S_l1 K N l k (i : Int) = K l' (k + n)) ∧ ∀ K, w_heldInt64S_l1 K l' N k (i : Int) = K (k + n) := by
  intro n
  induction n with
  | zero =>
    intro i N l k ha h1 h3 h4 h5
    obtain ⟨N, rfl⟩ := pos_fuel h3
    have hi : ¬ ((i : Int) < (l.length : Int)) := by omega
    exact ⟨l, rfl, rfl, fun K => by simp [w_markInt64S_l1, hi], fun K => by simp [w_heldInt64S_l1, hi]⟩
  | succ n ih =>
    intro i N l k ha h1 h3 h4 h5
    obtain ⟨N, rfl⟩ := pos_fuel h3
    have hi : (i : Int) < (l.length : Int) := by omega
    have hn : i < l.length := by omega
    have la := ha
    unfold LIM at la
    have e1 : w64 (k + 1) = k + 1 := w64_id (by omega) (by omega)
    obtain ⟨l', h6, h7, h8, h9⟩ := ih (i + 1) N (l.set i k) (k + 1) (by simpa using ha) (by simp; omega) (by omega) (by omega) (by omega)
    have hn' : i < l'.length := by rw [h6]; simpa using hn
    have hs : l'[i] = k := by
      have : (l'.take (i + 1))[i]'(by simp; omega) = ((l.set i k).take (i + 1))[i]'(by simp; omega) := by simp only [h7]
      simpa using this
    refine ⟨l', by simpa using h6, ?_, fun K => ?_, fun K => ?_⟩
    · have := congrArg (List.take i) h7
      simpa [List.take_take, List.take_set_of_le (Nat.le_refl i)] using this
    · simp only [w_markInt64S_l1, hi, decide_true, cond_true, idx_lt l i hn, Option.bind_some, e1, w64_nat i (by omega), Int.toNat_natCast, h8]
      congr 1; omega
    · have hi' : (i : Int) < (l'.length : Int) := by omega
      simp only [w_heldInt64S_l1, hi', decide_true, cond_true, idx_lt l' i hn', hs, Option.bind_some, bne_self_eq_false, cond_false, e1, w64_nat i (by omega), h9]
      congr 1; omega
theorem w_markInt64S_eq {N : Nat} (a : List Int) (ha : a.length ≤ LIM) (hN : a.length < N) : ∃ l', w_markInt64S N a 1 = some (1 + (a.length : Int), l') ∧ w_heldInt64S N l' 1 = some (1 + (a.length : Int)) := by
  have la := ha
  unfold LIM at la
  obtain ⟨l', h6, h7, h8, h9⟩ := w_markInt64S_l1_eq a.length 0 N a 1 ha (by omega) hN (by omega) (by omega)
  exact ⟨l', by unfold w_markInt64S; exact h8 _, by unfold w_heldInt64S; exact h9 _⟩
/-! ## marks of texts -/
theorem w_markText_l1_eq : ∀ (n : Nat) (N : Nat) (k : Int) (out : Str), 0 ≤ k → k < (10 : Int) ^ n → k ≤ 9223372036854775807 → n < N → out.length + n ≤ 1000 →
    ∃ r : Str, r.length ≤ out.length + n ∧ ∀ K, w_markText_l1 K N k out = K r := by
  intro n
  induction n with
  | zero =>
    intro N k out h0 h1 h2 h3 h4
    obtain ⟨N, rfl⟩ := pos_fuel h3
    have : ¬ k > 0 := by simp at h1; omega
    exact ⟨out, by omega, fun K => by simp only [w_markText_l1, this, decide_false, cond_false]⟩
  | succ n ih =>
    intro N k out h0 h1 h2 h3 h4
    obtain ⟨N, rfl⟩ := pos_fuel h3
    by_cases hk : k > 0
    · have e4 : Int.tdiv k 10 = k / 10 := Int.tdiv_eq_ediv_of_nonneg (by omega)
      have e5 : w64 (k / 10) = k / 10 := w64_id (by omega) (by omega)
      have h6 : k / 10 < 10 ^ n := by rw [Int.pow_succ] at h1; omega
      obtain ⟨r, h7, h8⟩ := ih N (k / 10) (UInt8.ofInt (w64 (48 + (Int.tmod k 10))) :: out) (by omega) h6 (by omega) (by omega) (by simp; omega)
      refine ⟨r, by simp at h7; omega, fun K => ?_⟩
      simp only [w_markText_l1, hk, decide_true, cond_true]
      rw [cat_some _ _ (by simp; unfold LIM; omega)]
      simp only [Option.bind_some, e4, e5, List.singleton_append, h8]
    · exact ⟨out, by omega, fun K => by simp only [w_markText_l1, hk, decide_false, cond_false]⟩
theorem w_markText_eq (N : Nat) (k : Int) (hN : 30 < N) (h1 : k ≤ 9223372036854775807) : ∃ s, w_markText N k = some s := by
  unfold w_markText
  by_cases h : k ≤ 0
  · exact ⟨[109, 48], by simp only [h, decide_true, cond_true]⟩
  · obtain ⟨r, h2, h3⟩ := w_markText_l1_eq 19 N k [] (by omega) (by omega) h1 (by omega) (by simp)
    refine ⟨[109] ++ r, ?_⟩
    simp only [h, decide_false, cond_false, withK_eq, h3]
    rw [cat_some _ _ (by simp at h2 ⊢; unfold LIM; omega)]
    rfl
theorem w_markSparePartS_l1_eq : ∀ (n i N : Nat) (l : List SparePart) (k : Int), l.length ≤ LIM → i + n = l.length → n + 40 < N → 0 ≤ k → k + 5 * n ≤ 4611686018427387904 →
    ∃ l', l'.length = l.length ∧ l'.take i = l.take i ∧ (∀ K, w_markSparePartS_l1 K N l k (i : Int) = K l' (k + 5 * n)) ∧ ∀ K, w_heldSparePartS_l1 K l' N k (i : Int) = K (k + 5 * n) := by
  intro n
  induction n with
  | zero =>
    intro i N l k ha h1 h3 h4 h5
    obtain ⟨N, rfl⟩ := pos_fuel h3
    have hi : ¬ ((i : Int) < (l.length : Int)) := by omega
    exact ⟨l, rfl, rfl, fun K => by simp [w_markSparePartS_l1, hi], fun K => by simp [w_heldSparePartS_l1, hi]⟩
  | succ n ih =>
    intro i N l k ha h1 h3 h4 h5
    obtain ⟨N, rfl⟩ := pos_fuel h3
    have hi : (i : Int) < (l.length : Int) := by omega
    have hn : i < l.length := by omega
    have la := ha
    unfold LIM at la
    have e1 : w64 (k + 1) = k + 1 := w64_id (by omega) (by omega)
    have e2 : w64 (k + 1 + 1) = k + 1 + 1 := w64_id (by omega) (by omega)
    have e3 : w64 (k + 1 + 1 + 1) = k + 1 + 1 + 1 := w64_id (by omega) (by omega)
    have e4 : w64 (k + 1 + 1 + 1 + 1) = k + 1 + 1 + 1 + 1 := w64_id (by omega) (by omega)
    have e5 : w64 (k + 1 + 1 + 1 + 1 + 1) = k + 1 + 1 + 1 + 1 + 1 := w64_id (by omega) (by omega)
    obtain ⟨s, hs⟩ := w_markText_eq N k (by omega) (by omega)
    obtain ⟨l', h6, h7, h8, h9⟩ := ih (i + 1) N (l.set i ⟨s, k + 1, k + 1 + 1, k + 1 + 1 + 1, k + 1 + 1 + 1 + 1⟩) (k + 1 + 1 + 1 + 1 + 1) (by simpa using ha) (by simp; omega) (by omega) (by omega) (by omega)
    have hn' : i < l'.length := by rw [h6]; simpa using hn
    have hs' : l'[i] = ⟨s, k + 1, k + 1 + 1, k + 1 + 1 + 1, k + 1 + 1 + 1 + 1⟩ := by
      have : (l'.take (i + 1))[i]'(by simp; omega) = ((l.set i ⟨s, k + 1, k + 1 + 1, k + 1 + 1 + 1, k + 1 + 1 + 1 + 1⟩).take (i + 1))[i]'(by simp; omega) := by simp only [h7]
      simpa using this
    refine ⟨l', by simpa using h6, ?_, fun K => ?_, fun K => ?_⟩
    · have := congrArg (List.take i) h7
      simpa [List.take_take, List.take_set_of_le (Nat.le_refl i)] using this
    · simp only [w_markSparePartS_l1, hi, decide_true, cond_true, hs, idx_lt l i hn, Option.bind_some, e1, e2, e3, e4, e5, w64_nat i (by omega), Int.toNat_natCast, List.set_set, idx_set _ i _ hn, h8]
      congr 1; omega
    · have hi' : (i : Int) < (l'.length : Int) := by omega
      simp only [w_heldSparePartS_l1, hi', decide_true, cond_true, hs, idx_lt l' i hn', hs', Option.bind_some, bne_self_eq_false, cond_false, e1, e2, e3, e4, e5, w64_nat i (by omega), h9]
      congr 1; omega
theorem w_markSparePartS_eq {N : Nat} (a : List SparePart) (ha : a.length ≤ LIM) (hN : a.length + 40 < N) : ∃ l', w_markSparePartS N a 1 = some (1 + 5 * (a.length : Int), l') ∧ w_heldSparePartS N l' 1 = some (1 + 5 * (a.length : Int)) := by
  have la := ha
  unfold LIM at la
  obtain ⟨l', h6, h7, h8, h9⟩ := w_markSparePartS_l1_eq a.length 0 N a 1 ha (by omega) hN (by omega) (by omega)
  exact ⟨l', by unfold w_markSparePartS; exact h8 _, by unfold w_heldSparePartS; exact h9 _⟩
end Go.Proofs.Ytffaepmojpanoaa
