/-
  Plain lemmas on these functions. No conditions but those that each states.
-/
import Derived.Test.YthifimjkndpmpaaFnFewLettersP5
namespace Go.Proofs.Ythifimjkndpmpaa
set_option linter.unusedVariables false
set_option linter.unusedSimpArgs false
variable {α : Type}
theorem peq_l2 (lt : α → α → Bool) (a : Int) (xs : List α) (ha : 0 ≤ a) (ha2 : a < xs.length) (hl : xs.length ≤ 1000) (j : Int) (hj : j < xs.length) : ∀ (k N : Nat) (i : Int), j + 1 ≤ i + k → a < i → i ≤ j + 1 → k < N → ∃ i', i ≤ i' ∧ i' ≤ j + 1 ∧ ∀ K, sort_partitionEqual_func_l2 K lt a xs j N i = K i' := by
  intro k
  induction k with
  | zero =>
    intro N i h1 h2 h3 h6
    obtain ⟨N, rfl⟩ := pos_fuel (by omega : 0 < N)
    have hi : ¬ i ≤ j := by omega
    exact ⟨i, Int.le_refl _, h3, fun K => by simp [sort_partitionEqual_func_l2, hi]⟩
  | succ k ih =>
    intro N i h1 h2 h3 h6
    obtain ⟨N, rfl⟩ := pos_fuel (by omega : 0 < N)
    by_cases hi : i ≤ j
    · have e1 : w64 (i + 1) = i + 1 := w64_id (by omega) (by omega)
      obtain ⟨c, hc⟩ := lessO_ok lt (xs := xs) (i := a) (j := i) (by omega) (by omega) (by omega) (by omega)
      cases c with
      | true => exact ⟨i, Int.le_refl _, h3, fun K => by simp [sort_partitionEqual_func_l2, hi, hc]⟩
      | false =>
        obtain ⟨i', g1, g2, g3⟩ := ih N (i + 1) (by omega) (by omega) (by omega) (by omega)
        refine ⟨i', by omega, g2, fun K => ?_⟩
        simp only [sort_partitionEqual_func_l2, hi, decide_true, andO_true, hc, Option.bind_some, Bool.not_false, cond_true, e1]
        exact g3 K
    · exact ⟨i, Int.le_refl _, h3, fun K => by simp [sort_partitionEqual_func_l2, hi]⟩
theorem peq_l3 (lt : α → α → Bool) (a : Int) (xs : List α) (ha : 0 ≤ a) (ha2 : a < xs.length) (hl : xs.length ≤ 1000) (i : Int) (hi0 : a < i) : ∀ (k N : Nat) (j : Int), j + 1 ≤ i + k → i ≤ j + 1 → j < xs.length → k < N → ∃ j', i ≤ j' + 1 ∧ j' ≤ j ∧ ∀ K, sort_partitionEqual_func_l3 K lt a xs i N j = K j' := by
  intro k
  induction k with
  | zero =>
    intro N j h1 h2 h3 h6
    obtain ⟨N, rfl⟩ := pos_fuel (by omega : 0 < N)
    have hi : ¬ i ≤ j := by omega
    exact ⟨j, h2, Int.le_refl _, fun K => by simp [sort_partitionEqual_func_l3, hi]⟩
  | succ k ih =>
    intro N j h1 h2 h3 h6
    obtain ⟨N, rfl⟩ := pos_fuel (by omega : 0 < N)
    by_cases hi : i ≤ j
    · have e1 : w64 (j - 1) = j - 1 := w64_id (by omega) (by omega)
      obtain ⟨c, hc⟩ := lessO_ok lt (xs := xs) (i := a) (j := j) (by omega) (by omega) (by omega) (by omega)
      cases c with
      | false => exact ⟨j, h2, Int.le_refl _, fun K => by simp [sort_partitionEqual_func_l3, hi, hc]⟩
      | true =>
        obtain ⟨i', g1, g2, g3⟩ := ih N (j - 1) (by omega) (by omega) (by omega) (by omega)
        refine ⟨i', g1, by omega, fun K => ?_⟩
        simp only [sort_partitionEqual_func_l3, hi, decide_true, andO_true, hc, Option.bind_some, cond_true, e1]
        exact g3 K
    · exact ⟨j, h2, Int.le_refl _, fun K => by simp [sort_partitionEqual_func_l3, hi]⟩
theorem peq_l1 (lt : α → α → Bool) (a b : Int) (ha : 0 ≤ a) (hab : a < b) : ∀ (k N : Nat) (xs : List α) (i j : Int), j + 1 ≤ i + k → a < i → i ≤ j + 1 → j < b → b ≤ xs.length → xs.length ≤ 1000 → k + 1100 < N →
    ∃ i' zs, zs.Perm xs ∧ a < i' ∧ i' ≤ b ∧ ∀ K, sort_partitionEqual_func_l1 K lt a N xs i j = K zs i' := by
  intro k
  induction k with
  | zero =>
    intro N xs i j h1 h2 h3 h4 h5 hl h6
    obtain ⟨N, rfl⟩ := pos_fuel (by omega : 0 < N)
    obtain ⟨i1, a1, a2, a3⟩ := peq_l2 lt a xs ha (by omega) hl j (by omega) (j + 1 - i).toNat N i (by omega) h2 h3 (by omega)
    obtain ⟨j1, b1, b2, b3⟩ := peq_l3 lt a xs ha (by omega) hl i1 (by omega) (j + 1 - i1).toNat N j (by omega) (by omega) (by omega) (by omega)
    have hij : i1 > j1 := by omega
    refine ⟨i1, xs, .refl _, by omega, by omega, fun K => ?_⟩
    simp only [sort_partitionEqual_func_l1, withK_eq]
    rw [a3, b3]
    simp only [hij, decide_true, cond_true]
  | succ k ih =>
    intro N xs i j h1 h2 h3 h4 h5 hl h6
    obtain ⟨N, rfl⟩ := pos_fuel (by omega : 0 < N)
    obtain ⟨i1, a1, a2, a3⟩ := peq_l2 lt a xs ha (by omega) hl j (by omega) (j + 1 - i).toNat N i (by omega) h2 h3 (by omega)
    obtain ⟨j1, b1, b2, b3⟩ := peq_l3 lt a xs ha (by omega) hl i1 (by omega) (j + 1 - i1).toNat N j (by omega) (by omega) (by omega) (by omega)
    by_cases hij : i1 > j1
    · refine ⟨i1, xs, .refl _, by omega, by omega, fun K => ?_⟩
      simp only [sort_partitionEqual_func_l1, withK_eq]
      rw [a3, b3]
      simp only [hij, decide_true, cond_true]
    · obtain ⟨ws, q1, q2⟩ := swapO_ok (xs := xs) (i := i1) (j := j1) (by omega) (by omega) (by omega) (by omega)
      have hl0 := q2.length_eq
      have e1 : w64 (i1 + 1) = i1 + 1 := w64_id (by omega) (by omega)
      have e2 : w64 (j1 - 1) = j1 - 1 := w64_id (by omega) (by omega)
      by_cases hij2 : i1 = j1
      · -- they meet: one more round ends it
        obtain ⟨M, rfl⟩ := pos_fuel (by omega : 0 < N)
        have hx : ∀ K, sort_partitionEqual_func_l2 K lt a ws (j1 - 1) M (i1 + 1) = K (i1 + 1) := fun K => by
          obtain ⟨M, rfl⟩ := pos_fuel (by omega : 0 < M)
          have hn : ¬ i1 + 1 ≤ j1 - 1 := by omega
          simp [sort_partitionEqual_func_l2, hn]
        have hy : ∀ K, sort_partitionEqual_func_l3 K lt a ws (i1 + 1) M (j1 - 1) = K (j1 - 1) := fun K => by
          obtain ⟨M, rfl⟩ := pos_fuel (by omega : 0 < M)
          have hn : ¬ i1 + 1 ≤ j1 - 1 := by omega
          simp [sort_partitionEqual_func_l3, hn]
        have hgt : i1 + 1 > j1 - 1 := by omega
        refine ⟨i1 + 1, ws, q2, by omega, by omega, fun K => ?_⟩
        rw [sort_partitionEqual_func_l1]
        simp only [withK_eq]
        rw [a3, b3]
        simp only [hij, decide_false, cond_false, q1, Option.bind_some, e1, e2]
        rw [sort_partitionEqual_func_l1]
        simp only [withK_eq]
        rw [hx, hy]
        simp only [hgt, decide_true, cond_true]
      · obtain ⟨i', zs, c1, c2, c3, c4⟩ := ih N ws (i1 + 1) (j1 - 1) (by omega) (by omega) (by omega) (by omega) (by omega) (by omega) (by omega)
        refine ⟨i', zs, c1.trans q2, c2, c3, fun K => ?_⟩
        simp only [sort_partitionEqual_func_l1, withK_eq]
        rw [a3, b3]
        simp only [hij, decide_false, cond_false, q1, Option.bind_some, e1, e2]
        exact c4 K
theorem peq_ok (lt : α → α → Bool) (N : Nat) (xs : List α) (a b p : Int) (ha : 0 ≤ a) (hab : a < b) (hb : b ≤ xs.length) (hp : a ≤ p) (hp2 : p < b) (hl : xs.length ≤ 1000) (hN : 2200 < N) : ∃ m zs, sort_partitionEqual_func N xs a b p lt = some (m, zs) ∧ zs.Perm xs ∧ a < m ∧ m ≤ b := by
  obtain ⟨ws, q1, q2⟩ := swapO_ok (xs := xs) (i := a) (j := p) (by omega) (by omega) (by omega) (by omega)
  have hl0 := q2.length_eq
  have e1 : w64 (a + 1) = a + 1 := w64_id (by omega) (by omega)
  have e2 : w64 (b - 1) = b - 1 := w64_id (by omega) (by omega)
  obtain ⟨m, zs, c1, c2, c3, c4⟩ := peq_l1 lt a b ha hab (b - a).toNat N ws (a + 1) (b - 1) (by omega) (by omega) (by omega) (by omega) (by omega) (by omega) (by omega)
  refine ⟨m, zs, ?_, c1.trans q2, c2, c3⟩
  unfold sort_partitionEqual_func
  simp only [q1, Option.bind_some, withK_eq, e1, e2, c4]
theorem ptn_l1 (lt : α → α → Bool) (a b : Int) (xs : List α) (ha : 0 ≤ a) (hab : a < b) (hb : b ≤ xs.length) (hl : xs.length ≤ 1000) : ∀ (k N : Nat) (i : Int), b ≤ i + k → a < i → i ≤ b → k < N → ∃ i', i ≤ i' ∧ i' ≤ b ∧ ∀ K, sort_partition_func_l1 K lt a b xs N i = K i' := by
  have e2 : w64 (b - 1) = b - 1 := w64_id (by omega) (by omega)
  intro k
  induction k with
  | zero =>
    intro N i h1 h2 h3 h6
    obtain ⟨N, rfl⟩ := pos_fuel (by omega : 0 < N)
    have hi : ¬ i ≤ b - 1 := by omega
    exact ⟨i, Int.le_refl _, h3, fun K => by simp [sort_partition_func_l1, e2, hi]⟩
  | succ k ih =>
    intro N i h1 h2 h3 h6
    obtain ⟨N, rfl⟩ := pos_fuel (by omega : 0 < N)
    by_cases hi : i ≤ b - 1
    · have e1 : w64 (i + 1) = i + 1 := w64_id (by omega) (by omega)
      obtain ⟨c, hc⟩ := lessO_ok lt (xs := xs) (i := i) (j := a) (by omega) (by omega) (by omega) (by omega)
      cases c with
      | false => exact ⟨i, Int.le_refl _, h3, fun K => by simp [sort_partition_func_l1, e2, hi, hc]⟩
      | true =>
        obtain ⟨i', g1, g2, g3⟩ := ih N (i + 1) (by omega) (by omega) (by omega) (by omega)
        refine ⟨i', by omega, g2, fun K => ?_⟩
        simp only [sort_partition_func_l1, e2, hi, decide_true, andO_true, hc, Option.bind_some, cond_true, e1]
        exact g3 K
    · exact ⟨i, Int.le_refl _, h3, fun K => by simp [sort_partition_func_l1, e2, hi]⟩
theorem ptn_l2 (lt : α → α → Bool) (a : Int) (xs : List α) (ha : 0 ≤ a) (ha2 : a < xs.length) (hl : xs.length ≤ 1000) (i : Int) (hi0 : a < i) : ∀ (k N : Nat) (j : Int), j + 1 ≤ i + k → i ≤ j + 1 → j < xs.length → k < N → ∃ j', i ≤ j' + 1 ∧ j' ≤ j ∧ ∀ K, sort_partition_func_l2 K lt a xs i N j = K j' := by
  intro k
  induction k with
  | zero =>
    intro N j h1 h2 h3 h6
    obtain ⟨N, rfl⟩ := pos_fuel (by omega : 0 < N)
    have hi : ¬ i ≤ j := by omega
    exact ⟨j, h2, Int.le_refl _, fun K => by simp [sort_partition_func_l2, hi]⟩
  | succ k ih =>
    intro N j h1 h2 h3 h6
    obtain ⟨N, rfl⟩ := pos_fuel (by omega : 0 < N)
    by_cases hi : i ≤ j
    · have e1 : w64 (j - 1) = j - 1 := w64_id (by omega) (by omega)
      obtain ⟨c, hc⟩ := lessO_ok lt (xs := xs) (i := j) (j := a) (by omega) (by omega) (by omega) (by omega)
      cases c with
      | true => exact ⟨j, h2, Int.le_refl _, fun K => by simp [sort_partition_func_l2, hi, hc]⟩
      | false =>
        obtain ⟨i', g1, g2, g3⟩ := ih N (j - 1) (by omega) (by omega) (by omega) (by omega)
        refine ⟨i', g1, by omega, fun K => ?_⟩
        simp only [sort_partition_func_l2, hi, decide_true, andO_true, hc, Option.bind_some, Bool.not_false, cond_true, e1]
        exact g3 K
    · exact ⟨j, h2, Int.le_refl _, fun K => by simp [sort_partition_func_l2, hi]⟩
theorem ptn_l4 (lt : α → α → Bool) (a : Int) (xs : List α) (ha : 0 ≤ a) (ha2 : a < xs.length) (hl : xs.length ≤ 1000) (j : Int) (hj : j < xs.length) : ∀ (k N : Nat) (i : Int), j + 1 ≤ i + k → a < i → i ≤ j + 1 ∨ k = 0 → i ≤ 2000 → k < N → ∃ i', i ≤ i' ∧ (i' ≤ j + 1 ∨ i' = i) ∧ ∀ K, sort_partition_func_l4 K lt a xs j N i = K i' := by
  intro k
  induction k with
  | zero =>
    intro N i h1 h2 h3 h4 h6
    obtain ⟨N, rfl⟩ := pos_fuel (by omega : 0 < N)
    have hi : ¬ i ≤ j := by omega
    exact ⟨i, Int.le_refl _, .inr rfl, fun K => by simp [sort_partition_func_l4, hi]⟩
  | succ k ih =>
    intro N i h1 h2 h3 h4 h6
    obtain ⟨N, rfl⟩ := pos_fuel (by omega : 0 < N)
    by_cases hi : i ≤ j
    · have e1 : w64 (i + 1) = i + 1 := w64_id (by omega) (by omega)
      obtain ⟨c, hc⟩ := lessO_ok lt (xs := xs) (i := i) (j := a) (by omega) (by omega) (by omega) (by omega)
      cases c with
      | false => exact ⟨i, Int.le_refl _, .inr rfl, fun K => by simp [sort_partition_func_l4, hi, hc]⟩
      | true =>
        obtain ⟨i', g1, g2, g3⟩ := ih N (i + 1) (by omega) (by omega) (.inl (by omega)) (by omega) (by omega)
        refine ⟨i', by omega, by omega, fun K => ?_⟩
        simp only [sort_partition_func_l4, hi, decide_true, andO_true, hc, Option.bind_some, cond_true, e1]
        exact g3 K
    · exact ⟨i, Int.le_refl _, .inr rfl, fun K => by simp [sort_partition_func_l4, hi]⟩
theorem ptn_l5 (lt : α → α → Bool) (a : Int) (xs : List α) (ha : 0 ≤ a) (ha2 : a < xs.length) (hl : xs.length ≤ 1000) (i : Int) (hi0 : a < i) : ∀ (k N : Nat) (j : Int), j + 1 ≤ i + k → a ≤ j → j < xs.length → k < N → ∃ j', a ≤ j' ∧ j' ≤ j ∧ ∀ K, sort_partition_func_l5 K lt a xs i N j = K j' := by
  intro k
  induction k with
  | zero =>
    intro N j h1 h2 h3 h6
    obtain ⟨N, rfl⟩ := pos_fuel (by omega : 0 < N)
    have hi : ¬ i ≤ j := by omega
    exact ⟨j, h2, Int.le_refl _, fun K => by simp [sort_partition_func_l5, hi]⟩
  | succ k ih =>
    intro N j h1 h2 h3 h6
    obtain ⟨N, rfl⟩ := pos_fuel (by omega : 0 < N)
    by_cases hi : i ≤ j
    · have e1 : w64 (j - 1) = j - 1 := w64_id (by omega) (by omega)
      obtain ⟨c, hc⟩ := lessO_ok lt (xs := xs) (i := j) (j := a) (by omega) (by omega) (by omega) (by omega)
      cases c with
      | true => exact ⟨j, h2, Int.le_refl _, fun K => by simp [sort_partition_func_l5, hi, hc]⟩
      | false =>
        obtain ⟨i', g1, g2, g3⟩ := ih N (j - 1) (by omega) (by omega) (by omega) (by omega)
        refine ⟨i', g1, by omega, fun K => ?_⟩
        simp only [sort_partition_func_l5, hi, decide_true, andO_true, hc, Option.bind_some, Bool.not_false, cond_true, e1]
        exact g3 K
    · exact ⟨j, h2, Int.le_refl _, fun K => by simp [sort_partition_func_l5, hi]⟩
theorem ptn_l3 (lt : α → α → Bool) (a b : Int) (ha : 0 ≤ a) (hab : a < b) : ∀ (k N : Nat) (xs : List α) (i j : Int), j + 1 ≤ i + k → a < i → i ≤ b + 1 → a ≤ j → j < b → b ≤ xs.length → xs.length ≤ 1000 → k + 1100 < N →
    ∃ j' zs, zs.Perm xs ∧ a ≤ j' ∧ j' < b ∧ ∀ K, sort_partition_func_l3 K lt a N xs i j = K zs j' := by
  intro k
  induction k with
  | zero =>
    intro N xs i j h1 h2 h3 h4 h5 hb hl h6
    obtain ⟨N, rfl⟩ := pos_fuel (by omega : 0 < N)
    obtain ⟨i1, a1, a2, a3⟩ := ptn_l4 lt a xs ha (by omega) hl j (by omega) 0 N i (by omega) h2 (.inr rfl) (by omega) (by omega)
    obtain ⟨j1, b1, b2, b3⟩ := ptn_l5 lt a xs ha (by omega) hl i1 (by omega) 0 N j (by omega) (by omega) (by omega) (by omega)
    have hij : i1 > j1 := by omega
    refine ⟨j1, xs, .refl _, by omega, by omega, fun K => ?_⟩
    simp only [sort_partition_func_l3, withK_eq]
    rw [a3, b3]
    simp only [hij, decide_true, cond_true]
  | succ k ih =>
    intro N xs i j h1 h2 h3 h4 h5 hb hl h6
    obtain ⟨N, rfl⟩ := pos_fuel (by omega : 0 < N)
    obtain ⟨i1, a1, a2, a3⟩ := ptn_l4 lt a xs ha (by omega) hl j (by omega) (j + 1 - i).toNat N i (by omega) h2 (by omega) (by omega) (by omega)
    obtain ⟨j1, b1, b2, b3⟩ := ptn_l5 lt a xs ha (by omega) hl i1 (by omega) (j + 1 - i1).toNat N j (by omega) (by omega) (by omega) (by omega)
    by_cases hij : i1 > j1
    · refine ⟨j1, xs, .refl _, by omega, by omega, fun K => ?_⟩
      simp only [sort_partition_func_l3, withK_eq]
      rw [a3, b3]
      simp only [hij, decide_true, cond_true]
    · obtain ⟨ws, q1, q2⟩ := swapO_ok (xs := xs) (i := i1) (j := j1) (by omega) (by omega) (by omega) (by omega)
      have hl0 := q2.length_eq
      have e1 : w64 (i1 + 1) = i1 + 1 := w64_id (by omega) (by omega)
      have e2 : w64 (j1 - 1) = j1 - 1 := w64_id (by omega) (by omega)
      obtain ⟨j', zs, c1, c2, c3, c4⟩ := ih N ws (i1 + 1) (j1 - 1) (by omega) (by omega) (by omega) (by omega) (by omega) (by omega) (by omega) (by omega)
      refine ⟨j', zs, c1.trans q2, c2, c3, fun K => ?_⟩
      simp only [sort_partition_func_l3, withK_eq]
      rw [a3, b3]
      simp only [hij, decide_false, cond_false, q1, Option.bind_some, e1, e2]
      exact c4 K
theorem ptn_ok (lt : α → α → Bool) (N : Nat) (xs : List α) (a b p : Int) (ha : 0 ≤ a) (hab : a < b) (hb : b ≤ xs.length) (hp : a ≤ p) (hp2 : p < b) (hl : xs.length ≤ 1000) (hN : 2300 < N) : ∃ m c zs, sort_partition_func N xs a b p lt = some (m, c, zs) ∧ zs.Perm xs ∧ a ≤ m ∧ m < b := by
  obtain ⟨ws, q1, q2⟩ := swapO_ok (xs := xs) (i := a) (j := p) (by omega) (by omega) (by omega) (by omega)
  have hl0 := q2.length_eq
  have e1 : w64 (a + 1) = a + 1 := w64_id (by omega) (by omega)
  have e2 : w64 (b - 1) = b - 1 := w64_id (by omega) (by omega)
  obtain ⟨i1, a1, a2, a3⟩ := ptn_l1 lt a b ws ha hab (by omega) (by omega) (b - a).toNat N (a + 1) (by omega) (by omega) (by omega) (by omega)
  obtain ⟨j1, b1, b2, b3⟩ := ptn_l2 lt a ws ha (by omega) (by omega) i1 (by omega) (b - i1).toNat N (b - 1) (by omega) (by omega) (by omega) (by omega)
  by_cases hij : i1 > j1
  · obtain ⟨zs, s1, s2⟩ := swapO_ok (xs := ws) (i := j1) (j := a) (by omega) (by omega) (by omega) (by omega)
    refine ⟨j1, true, zs, ?_, s2.trans q2, by omega, by omega⟩
    unfold sort_partition_func
    simp only [q1, Option.bind_some, withK_eq, e1, e2, a3, b3, hij, decide_true, cond_true, s1]
  · obtain ⟨vs, r1, r2⟩ := swapO_ok (xs := ws) (i := i1) (j := j1) (by omega) (by omega) (by omega) (by omega)
    have hl1 := r2.length_eq
    have e3 : w64 (i1 + 1) = i1 + 1 := w64_id (by omega) (by omega)
    have e4 : w64 (j1 - 1) = j1 - 1 := w64_id (by omega) (by omega)
    obtain ⟨j', us, c1, c2, c3, c4⟩ := ptn_l3 lt a b ha hab (b - a).toNat N vs (i1 + 1) (j1 - 1) (by omega) (by omega) (by omega) (by omega) (by omega) (by omega) (by omega) (by omega)
    have hl2 := c1.length_eq
    obtain ⟨zs, s1, s2⟩ := swapO_ok (xs := us) (i := j') (j := a) (by omega) (by omega) (by omega) (by omega)
    refine ⟨j', false, zs, ?_, ((s2.trans c1).trans r2).trans q2, by omega, by omega⟩
    unfold sort_partition_func
    simp only [q1, Option.bind_some, withK_eq, e1, e2, a3, b3, hij, decide_false, cond_false, r1, e3, e4, c4, s1]
theorem uand_le (a : Int) (k : Nat) (hk : k < 1000) : 0 ≤ uand a (k : Int) ∧ uand a (k : Int) ≤ k := by
  unfold uand
  have h1 : (BitVec.ofInt 64 a &&& BitVec.ofInt 64 (k : Int)).toNat ≤ k := by
    rw [BitVec.toNat_and]
    refine Nat.le_trans Nat.and_le_right ?_
    rw [BitVec.toNat_ofInt]
    omega
  have hw : ∀ x : Int, 0 ≤ x → x < 18446744073709551616 → IntKind.u64.wrap x = x := fun x h0 h1 => by
    have h2 : IntKind.u64.wrap x = x % 18446744073709551616 := by simp [IntKind.wrap, IntKind.bits, IntKind.signed]
    omega
  rw [hw _ (by omega) (by omega)]
  omega
theorem pow2_ok : ∀ n : Fin 32, 8 ≤ n.val → ∃ r : Fin 64, sort_nextPowerOfTwo (n.val : Int) = some (r.val : Int) ∧ 1 ≤ r.val ∧ r.val ≤ 2 * n.val := by decide +kernel
theorem next_some (x : Int) : ∃ r, sort_xorshift_Next x = some r := by
  have h : ∀ a b : Int, ¬ b < 0 → ushlO a b = some (ushl a b) := fun a b h => by unfold ushlO; rw [if_neg h]
  unfold sort_xorshift_Next
  rw [h x 13 (by omega), Option.bind_some, h _ 17 (by omega), Option.bind_some]
  exact ⟨_, rfl⟩
theorem brk_l1 (a b r : Int) (ha : 0 ≤ a) (h8 : 8 ≤ b - a) (hr : 1 ≤ r) (hr2 : r ≤ 2 * (b - a)) (h31 : b - a < 32) : ∀ (k N : Nat) (x : Int) (xs : List α) (i : Int), a + (b - a) / 4 * 2 + 2 ≤ i + k → a ≤ i → i ≤ a + (b - a) / 4 * 2 + 2 → b ≤ xs.length → xs.length ≤ 1000 → k < N →
    ∃ zs : List α, zs.Perm xs ∧ sort_breakPatterns_func_l1 a b r N x xs i = some zs := by
  have e1 : w64 (b - a) = b - a := w64_id (by omega) (by omega)
  have hq : Int.tdiv (b - a) 4 = (b - a) / 4 := Int.tdiv_eq_ediv_of_nonneg (by omega)
  have e2 : w64 ((b - a) / 4) = (b - a) / 4 := w64_id (by omega) (by omega)
  have e3 : w64 ((b - a) / 4 * 2) = (b - a) / 4 * 2 := w64_id (by omega) (by omega)
  intro k
  induction k with
  | zero =>
    intro N x xs i h1 h2 h3 h4 h5 h6
    obtain ⟨N, rfl⟩ := pos_fuel (by omega : 0 < N)
    have e4 : w64 (a + (b - a) / 4 * 2) = a + (b - a) / 4 * 2 := w64_id (by omega) (by omega)
    have e5 : w64 (a + (b - a) / 4 * 2 + 1) = a + (b - a) / 4 * 2 + 1 := w64_id (by omega) (by omega)
    have hi : ¬ i ≤ a + (b - a) / 4 * 2 + 1 := by omega
    exact ⟨xs, .refl _, by simp [sort_breakPatterns_func_l1, e1, hq, e2, e3, e4, e5, hi]⟩
  | succ k ih =>
    intro N x xs i h1 h2 h3 h4 h5 h6
    obtain ⟨N, rfl⟩ := pos_fuel (by omega : 0 < N)
    have e4 : w64 (a + (b - a) / 4 * 2) = a + (b - a) / 4 * 2 := w64_id (by omega) (by omega)
    have e5 : w64 (a + (b - a) / 4 * 2 + 1) = a + (b - a) / 4 * 2 + 1 := w64_id (by omega) (by omega)
    by_cases hi : i ≤ a + (b - a) / 4 * 2 + 1
    · obtain ⟨v, hv⟩ := next_some x
      obtain ⟨q, hq1⟩ := Int.eq_ofNat_of_zero_le (by omega : 0 ≤ r - 1)
      have hwr : IntKind.u64.wrap (r - 1) = (q : Int) := by
        have h2 : IntKind.u64.wrap (r - 1) = (r - 1) % 18446744073709551616 := by simp [IntKind.wrap, IntKind.bits, IntKind.signed]
        omega
      obtain ⟨u0, u1⟩ := uand_le v.1 q (by omega)
      obtain ⟨u, hu⟩ : ∃ u, u = uand v.1 (q : Int) := ⟨_, rfl⟩
      rw [← hu] at u0 u1
      have e6 : w64 u = u := w64_id (by omega) (by omega)
      have e7 : w64 (i + 1) = i + 1 := w64_id (by omega) (by omega)
      have key : ∀ o : Int, 0 ≤ o → o < b - a → ∃ zs : List α, zs.Perm xs ∧ ((swapO xs i (w64 (a + o))).bind fun l20 => sort_breakPatterns_func_l1 a b r N v.2 l20 (w64 (i + 1))) = some zs := fun o o0 o1 => by
        have e8 : w64 (a + o) = a + o := w64_id (by omega) (by omega)
        obtain ⟨ws, q1, q2⟩ := swapO_ok (xs := xs) (i := i) (j := a + o) (by omega) (by omega) (by omega) (by omega)
        have hl0 := q2.length_eq
        obtain ⟨zs, c1, c2⟩ := ih N v.2 ws (i + 1) (by omega) (by omega) (by omega) (by omega) (by omega) (by omega)
        exact ⟨zs, c1.trans q2, by rw [e8, q1, Option.bind_some, e7]; exact c2⟩
      by_cases hg : u ≥ b - a
      · have e9 : w64 (u - (b - a)) = u - (b - a) := w64_id (by omega) (by omega)
        obtain ⟨zs, c1, c2⟩ := key (u - (b - a)) (by omega) (by omega)
        refine ⟨zs, c1, ?_⟩
        simp only [sort_breakPatterns_func_l1, e1, hq, e2, e3, e4, e5, hi, decide_true, cond_true, hv, Option.bind_some, withK_eq, hwr, ← hu, e6, hg, e9]
        exact c2
      · obtain ⟨zs, c1, c2⟩ := key u u0 (by omega)
        refine ⟨zs, c1, ?_⟩
        simp only [sort_breakPatterns_func_l1, e1, hq, e2, e3, e4, e5, hi, decide_true, cond_true, hv, Option.bind_some, withK_eq, hwr, ← hu, e6, hg, decide_false, cond_false]
        exact c2
    · exact ⟨xs, .refl _, by simp [sort_breakPatterns_func_l1, e1, hq, e2, e3, e4, e5, hi]⟩
theorem brk_ok (lt : α → α → Bool) (N : Nat) (xs : List α) (a b : Int) (ha : 0 ≤ a) (h8 : 8 ≤ b - a) (h31 : b - a < 32) (hb : b ≤ xs.length) (hl : xs.length ≤ 1000) (hN : 100 < N) : ∃ zs, sort_breakPatterns_func N xs a b lt = some zs ∧ zs.Perm xs := by
  have e1 : w64 (b - a) = b - a := w64_id (by omega) (by omega)
  have hq : Int.tdiv (b - a) 4 = (b - a) / 4 := Int.tdiv_eq_ediv_of_nonneg (by omega)
  have e2 : w64 ((b - a) / 4) = (b - a) / 4 := w64_id (by omega) (by omega)
  have e3 : w64 ((b - a) / 4 * 2) = (b - a) / 4 * 2 := w64_id (by omega) (by omega)
  have e4 : w64 (a + (b - a) / 4 * 2) = a + (b - a) / 4 * 2 := w64_id (by omega) (by omega)
  have e5 : w64 (a + (b - a) / 4 * 2 - 1) = a + (b - a) / 4 * 2 - 1 := w64_id (by omega) (by omega)
  obtain ⟨r, r1, r2, r3⟩ := pow2_ok ⟨(b - a).toNat, by omega⟩ (by simp; omega)
  have hn : (((⟨(b - a).toNat, by omega⟩ : Fin 32).val : Nat) : Int) = b - a := by simp; omega
  rw [hn] at r1
  obtain ⟨zs, c1, c2⟩ := brk_l1 a b (r.val : Int) ha h8 (by omega) (by simp at r3; omega) h31 5 N (IntKind.u64.wrap (b - a)) xs (a + (b - a) / 4 * 2 - 1) (by omega) (by omega) (by omega) hb hl (by omega)
  have hge : b - a ≥ 8 := h8
  refine ⟨zs, ?_, c1⟩
  unfold sort_breakPatterns_func
  simp only [e1, hge, decide_true, cond_true, r1, Option.bind_some, hq, e2, e3, e4, e5]
  exact c2
theorem pdqS_ok (lt : α → α → Bool) (N : Nat) (xs : List α) (a b lim : Int) (ha : 0 ≤ a) (hab : a ≤ b) (hb : b ≤ xs.length) (h12 : b - a ≤ 12) (hl : xs.length ≤ 1000) (hN : 2200 < N) : ∃ zs, sort_pdqsort_funcS N xs a b lim lt = some zs ∧ zs.Perm xs := by
  obtain ⟨N, rfl⟩ := pos_fuel (by omega : 0 < N)
  have e1 : w64 (b - a) = b - a := w64_id (by omega) (by omega)
  obtain ⟨zs, h1, h2⟩ := ins_ok lt N xs a b ha hab hb hl (by omega)
  exact ⟨zs, by simp only [sort_pdqsort_funcS, sort_pdqsort_funcS_l1, e1, h12, decide_true, cond_true, h1, Option.bind_some], h2⟩
theorem pdq_l1 (lt : α → α → Bool) : ∀ (k N : Nat) (xs : List α) (a b lim : Int) (wb wp : Bool), b - a ≤ k → 0 ≤ a → a ≤ b → b ≤ xs.length → xs.length ≤ 24 → -1000 + k ≤ lim → lim ≤ 1000 → k + 4000 < N → ∃ zs, sort_pdqsort_func_l1 lt N xs a b lim wb wp = some zs ∧ zs.Perm xs := by
  intro k
  induction k with
  | zero =>
    intro N xs a b lim wb wp h1 h2 h3 h4 h5 h6 h7 h8
    obtain ⟨N, rfl⟩ := pos_fuel (by omega : 0 < N)
    have e1 : w64 (b - a) = b - a := w64_id (by omega) (by omega)
    have h12 : b - a ≤ 12 := by omega
    obtain ⟨zs, g1, g2⟩ := ins_ok lt N xs a b h2 h3 h4 (by omega) (by omega)
    exact ⟨zs, by simp only [sort_pdqsort_func_l1, e1, h12, decide_true, cond_true, g1, Option.bind_some], g2⟩
  | succ k ih =>
    intro N xs a b lim wb wp h1 h2 h3 h4 h5 h6 h7 h8
    obtain ⟨N, rfl⟩ := pos_fuel (by omega : 0 < N)
    have e1 : w64 (b - a) = b - a := w64_id (by omega) (by omega)
    by_cases h12 : b - a ≤ 12
    · obtain ⟨zs, g1, g2⟩ := ins_ok lt N xs a b h2 h3 h4 (by omega) (by omega)
      exact ⟨zs, by simp only [sort_pdqsort_func_l1, e1, h12, decide_true, cond_true, g1, Option.bind_some], g2⟩
    by_cases hz : lim = 0
    · obtain ⟨zs, g1, g2⟩ := heap_ok lt N xs a b h2 h3 h4 (by omega) (by omega)
      have hz' : (lim == 0) = true := by simpa using hz
      exact ⟨zs, by simp only [sort_pdqsort_func_l1, e1, h12, decide_false, cond_false, hz', cond_true, g1, Option.bind_some], g2⟩
    have hz' : (lim == 0) = false := by simpa using hz
    -- what follows the pivot
    have fin : ∀ (ys : List α) (p lim' : Int), ys.Perm xs → a ≤ p → p < b → -1000 + k ≤ lim' → lim' ≤ 1000 → ∃ zs : List α, zs.Perm xs ∧ ((andO (decide (a > 0)) ((lessO lt ys (w64 (a - 1)) p).bind fun b52 => some (!b52))).bind fun t48 =>
        bif t48 then
        (sort_partitionEqual_func N ys a b p lt).bind fun r54 => sort_pdqsort_func_l1 lt N r54.2 r54.1 b lim' wb wp
        else
        (sort_partition_func N ys a b p lt).bind fun r56 =>
        bif decide ((w64 (r56.1 - a)) < (w64 (b - r56.1))) then
        (sort_pdqsort_funcS N r56.2.2 a r56.1 lim' lt).bind fun r59 =>
        sort_pdqsort_func_l1 lt N r59 (w64 (r56.1 + 1)) b lim' (decide ((w64 (r56.1 - a)) ≥ (w64 (Int.tdiv (w64 (b - a)) 8)))) r56.2.1
        else
        (sort_pdqsort_funcS N r56.2.2 (w64 (r56.1 + 1)) b lim' lt).bind fun r61 =>
        sort_pdqsort_func_l1 lt N r61 a r56.1 lim' (decide ((w64 (b - r56.1)) ≥ (w64 (Int.tdiv (w64 (b - a)) 8)))) r56.2.1) = some zs := fun ys p lim' hp p1 p2 l1 l2 => by
      have hyl := hp.length_eq
      have hpar : ∃ zs : List α, zs.Perm xs ∧ ((sort_partition_func N ys a b p lt).bind fun r56 =>
          bif decide ((w64 (r56.1 - a)) < (w64 (b - r56.1))) then
          (sort_pdqsort_funcS N r56.2.2 a r56.1 lim' lt).bind fun r59 =>
          sort_pdqsort_func_l1 lt N r59 (w64 (r56.1 + 1)) b lim' (decide ((w64 (r56.1 - a)) ≥ (w64 (Int.tdiv (w64 (b - a)) 8)))) r56.2.1
          else
          (sort_pdqsort_funcS N r56.2.2 (w64 (r56.1 + 1)) b lim' lt).bind fun r61 =>
          sort_pdqsort_func_l1 lt N r61 a r56.1 lim' (decide ((w64 (b - r56.1)) ≥ (w64 (Int.tdiv (w64 (b - a)) 8)))) r56.2.1) = some zs := by
        obtain ⟨m, c, us, q1, q2, q3, q4⟩ := ptn_ok lt N ys a b p h2 (by omega) (by omega) p1 p2 (by omega) (by omega)
        have hul := q2.length_eq
        have f1 : w64 (m - a) = m - a := w64_id (by omega) (by omega)
        have f2 : w64 (b - m) = b - m := w64_id (by omega) (by omega)
        have f3 : w64 (m + 1) = m + 1 := w64_id (by omega) (by omega)
        rw [q1, Option.bind_some]
        dsimp only
        rw [f1, f2, f3]
        by_cases hlt : m - a < b - m
        · obtain ⟨vs, r1, r2⟩ := pdqS_ok lt N us a m lim' h2 q3 (by omega) (by omega) (by omega) (by omega)
          have hvl := r2.length_eq
          obtain ⟨zs, z1, z2⟩ := ih N vs (m + 1) b lim' (decide (m - a ≥ w64 (Int.tdiv (w64 (b - a)) 8))) c (by omega) (by omega) (by omega) (by omega) (by omega) l1 l2 (by omega)
          exact ⟨zs, ((z2.trans r2).trans q2).trans hp, by simp only [hlt, decide_true, cond_true, r1, Option.bind_some]; exact z1⟩
        · obtain ⟨vs, r1, r2⟩ := pdqS_ok lt N us (m + 1) b lim' (by omega) (by omega) (by omega) (by omega) (by omega) (by omega)
          have hvl := r2.length_eq
          obtain ⟨zs, z1, z2⟩ := ih N vs a m lim' (decide (b - m ≥ w64 (Int.tdiv (w64 (b - a)) 8))) c (by omega) (by omega) (by omega) (by omega) (by omega) l1 l2 (by omega)
          exact ⟨zs, ((z2.trans r2).trans q2).trans hp, by simp only [hlt, decide_false, cond_false, r1, Option.bind_some]; exact z1⟩
      by_cases h0 : a > 0
      · have f4 : w64 (a - 1) = a - 1 := w64_id (by omega) (by omega)
        obtain ⟨c, hc⟩ := lessO_ok lt (xs := ys) (i := a - 1) (j := p) (by omega) (by omega) (by omega) (by omega)
        cases c with
        | true =>
          obtain ⟨zs, z1, z2⟩ := hpar
          exact ⟨zs, z1, by simp only [h0, decide_true, andO_true, f4, hc, Option.bind_some, Bool.not_true, cond_false]; exact z2⟩
        | false =>
          obtain ⟨m, us, q1, q2, q3, q4⟩ := peq_ok lt N ys a b p h2 (by omega) (by omega) p1 p2 (by omega) (by omega)
          have hul := q2.length_eq
          obtain ⟨zs, z1, z2⟩ := ih N us m b lim' wb wp (by omega) (by omega) (by omega) (by omega) (by omega) l1 l2 (by omega)
          exact ⟨zs, (z2.trans q2).trans hp, by simp only [h0, decide_true, andO_true, f4, hc, Option.bind_some, Bool.not_false, cond_true, q1]; exact z1⟩
      · obtain ⟨zs, z1, z2⟩ := hpar
        exact ⟨zs, z1, by simp only [h0, decide_false, andO_false, Option.bind_some, cond_false]; exact z2⟩
    have piv : ∀ (ys : List α) (lim' : Int), ys.Perm xs → -1000 + k ≤ lim' → lim' ≤ 1000 → ∃ (p h : Int), sort_choosePivot_func ys a b lt = some (p, h, ys) ∧ a ≤ p ∧ p < b := fun ys lim' hp _ _ => by
      have hyl := hp.length_eq
      exact pivot_in lt ys a b h2 (by omega) (by omega) (by omega) (by omega)
    have e9 : ∀ p : Int, a ≤ p → p < b → w64 (w64 (b - 1) - w64 (p - a)) = b - 1 - (p - a) := fun p p1 p2 => by
      rw [w64_id (x := b - 1) (by omega) (by omega), w64_id (x := p - a) (by omega) (by omega), w64_id (by omega) (by omega)]
    -- insertion by parts, then the rest
    have ins : ∀ (ys : List α) (p h lim' : Int), ys.Perm xs → a ≤ p → p < b → -1000 + k ≤ lim' → lim' ≤ 1000 → ∀ kj : List α → Option (List α), (∀ us : List α, us.Perm xs → ∃ zs : List α, zs.Perm xs ∧ kj us = some zs) →
        ∃ zs : List α, zs.Perm xs ∧ ((andO wb (some wp)).bind fun t38 => (andO t38 (some (h == 1))).bind fun t41 => bif t41 then (sort_partialInsertionSort_func N ys a b lt).bind fun r45 => bif r45.1 then some r45.2 else kj r45.2 else kj ys) = some zs := fun ys p h lim' hp p1 p2 l1 l2 kj hkj => by
      have hyl := hp.length_eq
      obtain ⟨c, hc⟩ := part_ok lt N ys a b h2 (by omega) (by omega) (by omega) (by omega) (by omega)
      simp only [andO_some, Option.bind_some]
      cases (wb && wp && (h == 1))
      · exact hkj ys hp
      · simp only [cond_true, hc, Option.bind_some]
        cases c
        · exact hkj ys hp
        · exact ⟨ys, hp, rfl⟩
    have all : ∀ (ys : List α) (lim' : Int), ys.Perm xs → -1000 + k ≤ lim' → lim' ≤ 1000 → ∃ zs : List α, zs.Perm xs ∧ ((sort_choosePivot_func ys a b lt).bind fun r25 =>
        withK (fun (l27 : List α) (pivot28 : Int) (hint29 : Int) =>
        withK (fun (l35 : List α) =>
        (andO (decide (a > 0)) ((lessO lt l35 (w64 (a - 1)) pivot28).bind fun b52 =>
        some (!b52))).bind fun t48 =>
        bif t48 then
        (sort_partitionEqual_func N l35 a b pivot28 lt).bind fun r54 =>
        sort_pdqsort_func_l1 lt N r54.2 r54.1 b lim' wb wp
        else
        (sort_partition_func N l35 a b pivot28 lt).bind fun r56 =>
        bif decide ((w64 (r56.1 - a)) < (w64 (b - r56.1))) then
        (sort_pdqsort_funcS N r56.2.2 a r56.1 lim' lt).bind fun r59 =>
        sort_pdqsort_func_l1 lt N r59 (w64 (r56.1 + 1)) b lim' (decide ((w64 (r56.1 - a)) ≥ (w64 (Int.tdiv (w64 (b - a)) 8)))) r56.2.1
        else
        (sort_pdqsort_funcS N r56.2.2 (w64 (r56.1 + 1)) b lim' lt).bind fun r61 =>
        sort_pdqsort_func_l1 lt N r61 a r56.1 lim' (decide ((w64 (b - r56.1)) ≥ (w64 (Int.tdiv (w64 (b - a)) 8)))) r56.2.1) fun (kj36 : (List α) → Option (List α)) =>
        (andO wb (some wp)).bind fun t38 =>
        (andO t38 (some (hint29 == 1))).bind fun t41 =>
        bif t41 then
        (sort_partialInsertionSort_func N l27 a b lt).bind fun r45 =>
        bif r45.1 then
        some r45.2
        else
        kj36 r45.2
        else
        kj36 l27) fun (kj30 : (List α) → Int → Int → Option (List α)) =>
        bif (r25.2.1 == 2) then
        (sort_reverseRange_func N r25.2.2 a b lt).bind fun r33 =>
        kj30 r33 (w64 ((w64 (b - 1)) - (w64 (r25.1 - a)))) 1
        else
        kj30 r25.2.2 r25.1 r25.2.1) = some zs := fun ys lim' hp l1 l2 => by
      have hyl := hp.length_eq
      obtain ⟨p, h, p0, p1, p2⟩ := piv ys lim' hp l1 l2
      rw [p0, Option.bind_some]
      simp only [withK_eq]
      by_cases hh : h = 2
      · have hh' : (h == 2) = true := by simpa using hh
        obtain ⟨us, u1, u2⟩ := rev_ok lt N ys a b h2 h3 (by omega) (by omega) (by omega)
        rw [hh']
        simp only [cond_true, u1, Option.bind_some, e9 p p1 p2]
        exact ins us (b - 1 - (p - a)) 1 lim' (u2.trans hp) (by omega) (by omega) l1 l2 _ (fun vs hv => fin vs (b - 1 - (p - a)) lim' hv (by omega) (by omega) l1 l2)
      · have hh' : (h == 2) = false := by simpa using hh
        rw [hh']
        simp only [cond_false]
        exact ins ys p h lim' hp p1 p2 l1 l2 _ (fun vs hv => fin vs p lim' hv p1 p2 l1 l2)
    rw [sort_pdqsort_func_l1]
    simp only [e1, h12, decide_false, cond_false, hz']
    cases wb
    · obtain ⟨us, u1, u2⟩ := brk_ok lt N xs a b h2 (by omega) (by omega) h4 (by omega) (by omega)
      have e10 : w64 (lim - 1) = lim - 1 := w64_id (by omega) (by omega)
      obtain ⟨zs, z1, z2⟩ := all us (lim - 1) u2 (by omega) (by omega)
      refine ⟨zs, ?_, z1⟩
      rw [withK_eq]
      simp only [Bool.not_false, cond_true, u1, Option.bind_some, e10]
      rw [e1] at z2
      exact z2
    · obtain ⟨zs, z1, z2⟩ := all xs lim (.refl _) (by omega) h7
      refine ⟨zs, ?_, z1⟩
      rw [withK_eq]
      simp only [Bool.not_true, cond_false]
      rw [e1] at z2
      exact z2
theorem bitL_le (n : Nat) : bitL n ≤ 64 := by
  have h : ∀ f x : Nat, bitLA f x ≤ f := fun f => by
    induction f with
    | zero => intro x; exact Nat.le_refl _
    | succ f ih =>
      intro x
      unfold bitLA
      split
      · omega
      · have := ih (x / 2); omega
  exact h 64 n
theorem pdq_ok (lt : α → α → Bool) (N : Nat) (xs : List α) (lim : Int) (h0 : 0 ≤ lim) (h1 : lim ≤ 64) (hl : xs.length ≤ 24) (hN : 5000 < N) : ∃ zs, sort_pdqsort_func N xs 0 (xs.length : Int) lim lt = some zs ∧ zs.Perm xs := by
  obtain ⟨zs, g1, g2⟩ := pdq_l1 lt 24 N xs 0 (xs.length : Int) lim true true (by omega) (by omega) (by omega) (by omega) hl (by omega) (by omega) (by omega)
  exact ⟨zs, g1, g2⟩
end Go.Proofs.Ythifimjkndpmpaa
