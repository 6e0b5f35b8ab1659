/-
  Plain lemmas on these functions. No conditions but those that each states.
-/
import Derived.Test.YthifimjkndpmpaaFnFewLettersP4
namespace Go.Proofs.Ythifimjkndpmpaa
set_option linter.unusedVariables false
set_option linter.unusedSimpArgs false
variable {α : Type}
/-! The library's sort, as a plain function: it ends, and leaves a permutation. -/
theorem swapO_ok {xs : List α} {i j : Int} (hi : 0 ≤ i) (hi2 : i < xs.length) (hj : 0 ≤ j) (hj2 : j < xs.length) : ∃ zs, swapO xs i j = some zs ∧ zs.Perm xs := by
  unfold swapO
  rw [idx_int xs i hi hi2, idx_int xs j hj hj2]
  exact ⟨_, rfl, List.set_set_perm (by omega) (by omega)⟩
theorem lessO_ok (lt : α → α → Bool) {xs : List α} {i j : Int} (hi : 0 ≤ i) (hi2 : i < xs.length) (hj : 0 ≤ j) (hj2 : j < xs.length) : ∃ b, lessO lt xs i j = some b := by
  unfold lessO
  rw [idx_int xs i hi hi2, idx_int xs j hj hj2]
  exact ⟨_, rfl⟩
theorem ins_l2 (lt : α → α → Bool) (a : Int) (ha : 0 ≤ a) : ∀ (k N : Nat) (xs : List α) (j : Int), j ≤ a + k → a ≤ j → j < xs.length → xs.length ≤ 1000 → k < N → ∃ zs, zs.Perm xs ∧ ∀ K, sort_insertionSort_func_l2 K lt a N xs j = K zs := by
  intro k
  induction k with
  | zero =>
    intro N xs j h1 h2 h3 h4 h5
    obtain ⟨N, rfl⟩ := pos_fuel h5
    have hj : ¬ j > a := by omega
    exact ⟨xs, .refl _, fun K => by simp [sort_insertionSort_func_l2, hj]⟩
  | succ k ih =>
    intro N xs j h1 h2 h3 h4 h5
    obtain ⟨N, rfl⟩ := pos_fuel (by omega : 0 < N)
    by_cases hj : j > a
    · have e1 : w64 (j - 1) = j - 1 := w64_id (by omega) (by omega)
      obtain ⟨b, hb⟩ := lessO_ok lt (xs := xs) (i := j) (j := j - 1) (by omega) (by omega) (by omega) (by omega)
      cases b with
      | false => exact ⟨xs, .refl _, fun K => by simp [sort_insertionSort_func_l2, hj, e1, hb]⟩
      | true =>
        obtain ⟨zs, hz, hp⟩ := swapO_ok (xs := xs) (i := j) (j := j - 1) (by omega) (by omega) (by omega) (by omega)
        have hl := hp.length_eq
        obtain ⟨ys, g1, g2⟩ := ih N zs (j - 1) (by omega) (by omega) (by omega) (by omega) (by omega)
        refine ⟨ys, g1.trans hp, fun K => ?_⟩
        simp only [sort_insertionSort_func_l2, hj, decide_true, andO_true, e1, hb, Option.bind_some, cond_true, hz]
        exact g2 K
    · exact ⟨xs, .refl _, fun K => by simp [sort_insertionSort_func_l2, hj]⟩
theorem ins_l1 (lt : α → α → Bool) (a b : Int) (ha : 0 ≤ a) : ∀ (k N : Nat) (xs : List α) (i : Int), b ≤ i + k → a < i → b ≤ xs.length → xs.length ≤ 1000 → k + 1000 < N → ∃ zs, zs.Perm xs ∧ sort_insertionSort_func_l1 lt a b N xs i = some zs := by
  intro k
  induction k with
  | zero =>
    intro N xs i h1 h2 h3 h4 h5
    obtain ⟨N, rfl⟩ := pos_fuel (by omega : 0 < N)
    have hi : ¬ i < b := by omega
    exact ⟨xs, .refl _, by simp [sort_insertionSort_func_l1, hi]⟩
  | succ k ih =>
    intro N xs i h1 h2 h3 h4 h5
    obtain ⟨N, rfl⟩ := pos_fuel (by omega : 0 < N)
    by_cases hi : i < b
    · have e1 : w64 (i + 1) = i + 1 := w64_id (by omega) (by omega)
      obtain ⟨ys, g1, g2⟩ := ins_l2 lt a ha (i - a).toNat N xs i (by omega) (by omega) (by omega) h4 (by omega)
      have hl := g1.length_eq
      obtain ⟨zs, f1, f2⟩ := ih N ys (i + 1) (by omega) (by omega) (by omega) (by omega) (by omega)
      refine ⟨zs, f1.trans g1, ?_⟩
      simp only [sort_insertionSort_func_l1, hi, decide_true, cond_true, withK_eq]
      rw [g2, e1]; exact f2
    · exact ⟨xs, .refl _, by simp [sort_insertionSort_func_l1, hi]⟩
theorem ins_ok (lt : α → α → Bool) (N : Nat) (xs : List α) (a b : Int) (ha : 0 ≤ a) (hab : a ≤ b) (hb : b ≤ xs.length) (hl : xs.length ≤ 1000) (hN : 2100 < N) : ∃ zs, sort_insertionSort_func N xs a b lt = some zs ∧ zs.Perm xs := by
  have e1 : w64 (a + 1) = a + 1 := w64_id (by omega) (by omega)
  obtain ⟨zs, h1, h2⟩ := ins_l1 lt a b ha (b - a).toNat N xs (a + 1) (by omega) (by omega) hb hl (by omega)
  exact ⟨zs, by unfold sort_insertionSort_func; rw [e1]; exact h2, h1⟩
theorem sift_l1 (lt : α → α → Bool) (hi fi : Int) (hf : 0 ≤ fi) : ∀ (k N : Nat) (xs : List α) (root : Int), hi ≤ root + k → 0 ≤ root → root ≤ 1000 → fi + hi ≤ xs.length → xs.length ≤ 1000 → k + 1 < N → ∃ zs, zs.Perm xs ∧ sort_siftDown_func_l1 lt hi fi N xs root = some zs := by
  intro k
  induction k with
  | zero =>
    intro N xs root h1 h2 h3 h4 h5 h6
    obtain ⟨N, rfl⟩ := pos_fuel (by omega : 0 < N)
    have e1 : w64 (2 * root) = 2 * root := w64_id (by omega) (by omega)
    have e2 : w64 (2 * root + 1) = 2 * root + 1 := w64_id (by omega) (by omega)
    have hc : 2 * root + 1 ≥ hi := by omega
    exact ⟨xs, .refl _, by simp [sort_siftDown_func_l1, e1, e2, hc]⟩
  | succ k ih =>
    intro N xs root h1 h2 h3 h4 h5 h6
    obtain ⟨N, rfl⟩ := pos_fuel (by omega : 0 < N)
    have e1 : w64 (2 * root) = 2 * root := w64_id (by omega) (by omega)
    have e2 : w64 (2 * root + 1) = 2 * root + 1 := w64_id (by omega) (by omega)
    by_cases hc : 2 * root + 1 ≥ hi
    · exact ⟨xs, .refl _, by simp [sort_siftDown_func_l1, e1, e2, hc]⟩
    · have e3 : w64 (2 * root + 1 + 1) = 2 * root + 1 + 1 := w64_id (by omega) (by omega)
      have e4 : w64 (fi + (2 * root + 1)) = fi + (2 * root + 1) := w64_id (by omega) (by omega)
      have e5 : w64 (fi + (2 * root + 1) + 1) = fi + (2 * root + 1) + 1 := w64_id (by omega) (by omega)
      have e6 : w64 (fi + root) = fi + root := w64_id (by omega) (by omega)
      have key : ∀ c : Int, root < c → c < hi → ∃ zs, zs.Perm xs ∧ ((lessO lt xs (w64 (fi + root)) (w64 (fi + c))).bind fun b19 => bif !b19 then some xs else (swapO xs (w64 (fi + root)) (w64 (fi + c))).bind fun l22 => sort_siftDown_func_l1 lt hi fi N l22 c) = some zs := fun c c1 c2 => by
        have e7 : w64 (fi + c) = fi + c := w64_id (by omega) (by omega)
        obtain ⟨b, hb⟩ := lessO_ok lt (xs := xs) (i := fi + root) (j := fi + c) (by omega) (by omega) (by omega) (by omega)
        cases b with
        | false => exact ⟨xs, .refl _, by simp [e6, e7, hb]⟩
        | true =>
          obtain ⟨zs, hz, hp⟩ := swapO_ok (xs := xs) (i := fi + root) (j := fi + c) (by omega) (by omega) (by omega) (by omega)
          have hl := hp.length_eq
          obtain ⟨ys, g1, g2⟩ := ih N zs c (by omega) (by omega) (by omega) (by omega) (by omega) (by omega)
          exact ⟨ys, g1.trans hp, by simp only [e6, e7, hb, Option.bind_some, Bool.not_true, cond_false, hz]; exact g2⟩
      by_cases hd : 2 * root + 1 + 1 < hi
      · obtain ⟨b, hb⟩ := lessO_ok lt (xs := xs) (i := fi + (2 * root + 1)) (j := fi + (2 * root + 1) + 1) (by omega) (by omega) (by omega) (by omega)
        cases b with
        | false =>
          obtain ⟨zs, g1, g2⟩ := key (2 * root + 1) (by omega) (by omega)
          refine ⟨zs, g1, ?_⟩
          simp only [sort_siftDown_func_l1, e1, e2, hc, decide_false, cond_false, withK_eq, e3, hd, decide_true, andO_true, e4, e5, hb, Option.bind_some]
          rw [e4] at g2; exact g2
        | true =>
          obtain ⟨zs, g1, g2⟩ := key (2 * root + 1 + 1) (by omega) (by omega)
          refine ⟨zs, g1, ?_⟩
          simp only [sort_siftDown_func_l1, e1, e2, hc, decide_false, cond_false, withK_eq, e3, hd, decide_true, andO_true, e4, e5, hb, Option.bind_some, cond_true]
          exact g2
      · obtain ⟨zs, g1, g2⟩ := key (2 * root + 1) (by omega) (by omega)
        refine ⟨zs, g1, ?_⟩
        simp only [sort_siftDown_func_l1, e1, e2, hc, decide_false, cond_false, withK_eq, e3, hd, andO_false, Option.bind_some]
        exact g2
theorem sift_ok (lt : α → α → Bool) (N : Nat) (xs : List α) (lo hi fi : Int) (hf : 0 ≤ fi) (h0 : 0 ≤ lo) (h1 : lo ≤ 1000) (h2 : fi + hi ≤ xs.length) (hl : xs.length ≤ 1000) (hN : 1100 < N) : ∃ zs, sort_siftDown_func N xs lo hi fi lt = some zs ∧ zs.Perm xs := by
  obtain ⟨zs, g1, g2⟩ := sift_l1 lt hi fi hf (hi - lo).toNat N xs lo (by omega) h0 h1 h2 hl (by omega)
  exact ⟨zs, g2, g1⟩
theorem heap_l1 (lt : α → α → Bool) (a b : Int) (ha : 0 ≤ a) (hab : a ≤ b) (K : List α → Option (List α)) : ∀ (k N : Nat) (xs : List α) (i : Int), i < k → -1 ≤ i → i ≤ 1000 → b ≤ xs.length → xs.length ≤ 1000 → k + 1200 < N → ∃ zs, zs.Perm xs ∧ sort_heapSort_func_l1 K lt a b N xs i = K zs := by
  intro k
  induction k with
  | zero =>
    intro N xs i h1 h2 h3 h4 h5 h6
    obtain ⟨N, rfl⟩ := pos_fuel (by omega : 0 < N)
    have hi : ¬ i ≥ 0 := by omega
    exact ⟨xs, .refl _, by simp [sort_heapSort_func_l1, hi]⟩
  | succ k ih =>
    intro N xs i h1 h2 h3 h4 h5 h6
    obtain ⟨N, rfl⟩ := pos_fuel (by omega : 0 < N)
    by_cases hi : i ≥ 0
    · have e1 : w64 (b - a) = b - a := w64_id (by omega) (by omega)
      have e2 : w64 (i - 1) = i - 1 := w64_id (by omega) (by omega)
      obtain ⟨ys, g1, g2⟩ := sift_ok lt N xs i (b - a) a ha hi h3 (by omega) h5 (by omega)
      have hl := g2.length_eq
      obtain ⟨zs, f1, f2⟩ := ih N ys (i - 1) (by omega) (by omega) (by omega) (by omega) (by omega) (by omega)
      refine ⟨zs, f1.trans g2, ?_⟩
      simp only [sort_heapSort_func_l1, hi, decide_true, cond_true, e1, g1, Option.bind_some, e2]
      exact f2
    · exact ⟨xs, .refl _, by simp [sort_heapSort_func_l1, hi]⟩
theorem heap_l2 (lt : α → α → Bool) (a b : Int) (ha : 0 ≤ a) : ∀ (k N : Nat) (xs : List α) (i : Int), i < k → -1 ≤ i → a + i < b → b ≤ xs.length → xs.length ≤ 1000 → k + 1200 < N → ∃ zs, zs.Perm xs ∧ sort_heapSort_func_l2 lt a N xs i = some zs := by
  intro k
  induction k with
  | zero =>
    intro N xs i h1 h2 h3 h4 h5 h6
    obtain ⟨N, rfl⟩ := pos_fuel (by omega : 0 < N)
    have hi : ¬ i ≥ 0 := by omega
    exact ⟨xs, .refl _, by simp [sort_heapSort_func_l2, hi]⟩
  | succ k ih =>
    intro N xs i h1 h2 h3 h4 h5 h6
    obtain ⟨N, rfl⟩ := pos_fuel (by omega : 0 < N)
    by_cases hi : i ≥ 0
    · have e1 : w64 (a + i) = a + i := w64_id (by omega) (by omega)
      have e2 : w64 (i - 1) = i - 1 := w64_id (by omega) (by omega)
      obtain ⟨ws, q1, q2⟩ := swapO_ok (xs := xs) (i := a) (j := a + i) (by omega) (by omega) (by omega) (by omega)
      have hl0 := q2.length_eq
      obtain ⟨ys, g1, g2⟩ := sift_ok lt N ws 0 i a ha (by omega) (by omega) (by omega) (by omega) (by omega)
      have hl := g2.length_eq
      obtain ⟨zs, f1, f2⟩ := ih N ys (i - 1) (by omega) (by omega) (by omega) (by omega) (by omega) (by omega)
      refine ⟨zs, (f1.trans g2).trans q2, ?_⟩
      simp only [sort_heapSort_func_l2, hi, decide_true, cond_true, e1, q1, g1, Option.bind_some, e2]
      exact f2
    · exact ⟨xs, .refl _, by simp [sort_heapSort_func_l2, hi]⟩
theorem heap_ok (lt : α → α → Bool) (N : Nat) (xs : List α) (a b : Int) (ha : 0 ≤ a) (hab : a ≤ b) (hb : b ≤ xs.length) (hl : xs.length ≤ 1000) (hN : 3000 < N) : ∃ zs, sort_heapSort_func N xs a b lt = some zs ∧ zs.Perm xs := by
  have e1 : w64 (b - a) = b - a := w64_id (by omega) (by omega)
  have e2 : w64 (b - a - 1) = b - a - 1 := w64_id (by omega) (by omega)
  have hd : -1 ≤ Int.tdiv (b - a - 1) 2 ∧ Int.tdiv (b - a - 1) 2 ≤ 1000 := by
    by_cases h : b - a - 1 < 0
    · have : b - a - 1 = -1 := by omega
      rw [this]; decide
    · rw [Int.tdiv_eq_ediv_of_nonneg (by omega)]; omega
  have e3 : w64 (Int.tdiv (b - a - 1) 2) = Int.tdiv (b - a - 1) 2 := w64_id (by omega) (by omega)
  obtain ⟨ys, g1, g2⟩ := heap_l1 lt a b ha hab (fun l5 => sort_heapSort_func_l2 lt a N l5 (b - a - 1)) 1001 N xs (Int.tdiv (b - a - 1) 2) (by omega) hd.1 hd.2 hb hl (by omega)
  have hly := g1.length_eq
  obtain ⟨zs, f1, f2⟩ := heap_l2 lt a b ha (b - a).toNat N ys (b - a - 1) (by omega) (by omega) (by omega) (by omega) (by omega) (by omega)
  refine ⟨zs, ?_, f1.trans g1⟩
  unfold sort_heapSort_func
  simp only [withK_eq, e1, e2, e3]
  rw [g2, f2]
theorem rev_l1 : ∀ (k N : Nat) (xs : List α) (i j : Int), j ≤ i + k → 0 ≤ i → -1 ≤ j → j < xs.length → xs.length ≤ 1000 → k < N → ∃ zs, zs.Perm xs ∧ sort_reverseRange_func_l1 N xs i j = some zs := by
  intro k
  induction k with
  | zero =>
    intro N xs i j h1 h2 h3 h4 h5 h6
    obtain ⟨N, rfl⟩ := pos_fuel (by omega : 0 < N)
    have hi : ¬ i < j := by omega
    exact ⟨xs, .refl _, by simp [sort_reverseRange_func_l1, hi]⟩
  | succ k ih =>
    intro N xs i j h1 h2 h3 h4 h5 h6
    obtain ⟨N, rfl⟩ := pos_fuel (by omega : 0 < N)
    by_cases hi : i < j
    · have e1 : w64 (i + 1) = i + 1 := w64_id (by omega) (by omega)
      have e2 : w64 (j - 1) = j - 1 := w64_id (by omega) (by omega)
      obtain ⟨ws, q1, q2⟩ := swapO_ok (xs := xs) (i := i) (j := j) (by omega) (by omega) (by omega) (by omega)
      have hl0 := q2.length_eq
      obtain ⟨zs, f1, f2⟩ := ih N ws (i + 1) (j - 1) (by omega) (by omega) (by omega) (by omega) (by omega) (by omega)
      refine ⟨zs, f1.trans q2, ?_⟩
      simp only [sort_reverseRange_func_l1, hi, decide_true, cond_true, q1, Option.bind_some, e1, e2]
      exact f2
    · exact ⟨xs, .refl _, by simp [sort_reverseRange_func_l1, hi]⟩
theorem rev_ok (lt : α → α → Bool) (N : Nat) (xs : List α) (a b : Int) (ha : 0 ≤ a) (hab : a ≤ b) (hb : b ≤ xs.length) (hl : xs.length ≤ 1000) (hN : 1100 < N) : ∃ zs, sort_reverseRange_func N xs a b lt = some zs ∧ zs.Perm xs := by
  have e1 : w64 (b - 1) = b - 1 := w64_id (by omega) (by omega)
  obtain ⟨zs, g1, g2⟩ := rev_l1 (b - a).toNat N xs a (b - 1) (by omega) ha (by omega) (by omega) hl (by omega)
  exact ⟨zs, by unfold sort_reverseRange_func; rw [e1]; exact g2, g1⟩
/-- a place, out of a range -/
theorem order2_ok (lt : α → α → Bool) (xs : List α) (a b s : Int) (ha : 0 ≤ a) (ha2 : a < xs.length) (hb : 0 ≤ b) (hb2 : b < xs.length) : ∃ s', sort_order2_func xs a b s lt = some (a, b, xs, s') ∨ sort_order2_func xs a b s lt = some (b, a, xs, s') := by
  obtain ⟨c, hc⟩ := lessO_ok lt (xs := xs) (i := b) (j := a) hb hb2 ha ha2
  cases c
  · exact ⟨s, .inl (by simp [sort_order2_func, hc])⟩
  · exact ⟨w64 (s + 1), .inr (by simp [sort_order2_func, hc])⟩
theorem order2_in (lt : α → α → Bool) (xs : List α) (lo hi a b s : Int) (h0 : 0 ≤ lo) (h1 : hi ≤ xs.length) (ha : lo ≤ a) (ha2 : a < hi) (hb : lo ≤ b) (hb2 : b < hi) : ∃ p q s', sort_order2_func xs a b s lt = some (p, q, xs, s') ∧ lo ≤ p ∧ p < hi ∧ lo ≤ q ∧ q < hi := by
  obtain ⟨s', h | h⟩ := order2_ok lt xs a b s (by omega) (by omega) (by omega) (by omega)
  · exact ⟨_, _, _, h, ha, ha2, hb, hb2⟩
  · exact ⟨_, _, _, h, hb, hb2, ha, ha2⟩
theorem median_in (lt : α → α → Bool) (xs : List α) (lo hi a b c s : Int) (h0 : 0 ≤ lo) (h1 : hi ≤ xs.length) (ha : lo ≤ a) (ha2 : a < hi) (hb : lo ≤ b) (hb2 : b < hi) (hc : lo ≤ c) (hc2 : c < hi) : ∃ p s', sort_median_func xs a b c s lt = some (p, xs, s') ∧ lo ≤ p ∧ p < hi := by
  obtain ⟨p1, q1, s1, e1, a1, a2, a3, a4⟩ := order2_in lt xs lo hi a b s h0 h1 ha ha2 hb hb2
  obtain ⟨p2, q2, s2, e2, b1, b2, b3, b4⟩ := order2_in lt xs lo hi q1 c s1 h0 h1 a3 a4 hc hc2
  obtain ⟨p3, q3, s3, e3, c1, c2, c3, c4⟩ := order2_in lt xs lo hi p1 p2 s2 h0 h1 a1 a2 b1 b2
  exact ⟨q3, s3, by simp [sort_median_func, e1, e2, e3], c3, c4⟩
theorem pivot_in (lt : α → α → Bool) (xs : List α) (a b : Int) (ha : 0 ≤ a) (hb : b ≤ xs.length) (h8 : 8 ≤ b - a) (h50 : b - a < 50) (hl : xs.length ≤ 1000) : ∃ p h, sort_choosePivot_func xs a b lt = some (p, h, xs) ∧ a ≤ p ∧ p < b := by
  have e1 : w64 (b - a) = b - a := w64_id (by omega) (by omega)
  obtain ⟨q, hq⟩ : ∃ q, q = Int.tdiv (b - a) 4 := ⟨_, rfl⟩
  have hq2 : q = (b - a) / 4 := by rw [hq, Int.tdiv_eq_ediv_of_nonneg (by omega)]
  have e2 : w64 q = q := w64_id (by omega) (by omega)
  have e3 : w64 (q * 1) = q * 1 := w64_id (by omega) (by omega)
  have e4 : w64 (q * 2) = q * 2 := w64_id (by omega) (by omega)
  have e5 : w64 (q * 3) = q * 3 := w64_id (by omega) (by omega)
  have e6 : w64 (a + q * 1) = a + q * 1 := w64_id (by omega) (by omega)
  have e7 : w64 (a + q * 2) = a + q * 2 := w64_id (by omega) (by omega)
  have e8 : w64 (a + q * 3) = a + q * 3 := w64_id (by omega) (by omega)
  obtain ⟨p, s', g1, g2, g3⟩ := median_in lt xs a b (a + q * 1) (a + q * 2) (a + q * 3) 0 ha hb (by omega) (by omega) (by omega) (by omega) (by omega) (by omega)
  have h1 : b - a ≥ 8 := h8
  have h2 : ¬ b - a ≥ 50 := by omega
  have key : sort_choosePivot_func xs a b lt = (bif (s' == 0) then some (p, 1, xs) else bif (s' == 12) then some (p, 2, xs) else some (p, 0, xs)) := by
    unfold sort_choosePivot_func
    simp only [withK_eq, e1, h1, decide_true, cond_true, h2, decide_false, cond_false, ← hq, e2, e3, e4, e5, e6, e7, e8, g1, Option.bind_some]
  rw [key]
  cases (s' == 0)
  · cases (s' == 12)
    · exact ⟨p, 0, rfl, g2, g3⟩
    · exact ⟨p, 2, rfl, g2, g3⟩
  · exact ⟨p, 1, rfl, g2, g3⟩
theorem part_l2 (lt : α → α → Bool) (b : Int) (xs : List α) (hb : b ≤ xs.length) (hl : xs.length ≤ 1000) : ∀ (k N : Nat) (i : Int), b ≤ i + k → 1 ≤ i → i ≤ b → k < N → ∃ i', i ≤ i' ∧ i' ≤ b ∧ ∀ K, sort_partialInsertionSort_func_l2 K lt b xs N i = K i' := by
  intro k
  induction k with
  | zero =>
    intro N i h1 h2 h3 h6
    obtain ⟨N, rfl⟩ := pos_fuel (by omega : 0 < N)
    have hi : ¬ i < b := by omega
    exact ⟨i, Int.le_refl _, h3, fun K => by simp [sort_partialInsertionSort_func_l2, hi]⟩
  | succ k ih =>
    intro N i h1 h2 h3 h6
    obtain ⟨N, rfl⟩ := pos_fuel (by omega : 0 < N)
    by_cases hi : i < b
    · have e1 : w64 (i + 1) = i + 1 := w64_id (by omega) (by omega)
      have e2 : w64 (i - 1) = i - 1 := w64_id (by omega) (by omega)
      obtain ⟨c, hc⟩ := lessO_ok lt (xs := xs) (i := i) (j := i - 1) (by omega) (by omega) (by omega) (by omega)
      cases c with
      | true => exact ⟨i, Int.le_refl _, h3, fun K => by simp [sort_partialInsertionSort_func_l2, hi, e2, hc]⟩
      | false =>
        obtain ⟨i', g1, g2, g3⟩ := ih N (i + 1) (by omega) (by omega) (by omega) (by omega)
        refine ⟨i', by omega, g2, fun K => ?_⟩
        simp only [sort_partialInsertionSort_func_l2, hi, decide_true, andO_true, e2, hc, Option.bind_some, Bool.not_false, cond_true, e1]
        exact g3 K
    · exact ⟨i, Int.le_refl _, h3, fun K => by simp [sort_partialInsertionSort_func_l2, hi]⟩
theorem part_ok (lt : α → α → Bool) (N : Nat) (xs : List α) (a b : Int) (ha : 0 ≤ a) (hab : a < b) (hb : b ≤ xs.length) (h50 : b - a < 50) (hl : xs.length ≤ 1000) (hN : 1100 < N) : ∃ c, sort_partialInsertionSort_func N xs a b lt = some (c, xs) := by
  obtain ⟨N, rfl⟩ := pos_fuel (by omega : 0 < N)
  have e1 : w64 (a + 1) = a + 1 := w64_id (by omega) (by omega)
  have e2 : w64 (b - a) = b - a := w64_id (by omega) (by omega)
  have h5 : (0 : Int) < 5 := by omega
  obtain ⟨i', g1, g2, g3⟩ := part_l2 lt b xs hb hl (b - a).toNat N (a + 1) (by omega) (by omega) (by omega) (by omega)
  have key : sort_partialInsertionSort_func (N + 1) xs a b lt = (bif (i' == b) then some (true, xs) else some (false, xs)) := by
    unfold sort_partialInsertionSort_func
    simp only [withK_eq, sort_partialInsertionSort_func_l1, e1, e2, h5, decide_true, cond_true, h50, g3]
  rw [key]
  cases (i' == b)
  · exact ⟨false, rfl⟩
  · exact ⟨true, rfl⟩
end Go.Proofs.Ythifimjkndpmpaa
