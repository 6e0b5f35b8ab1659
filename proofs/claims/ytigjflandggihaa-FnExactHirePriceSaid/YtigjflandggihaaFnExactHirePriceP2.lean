/-
  Plain lemmas on these functions. No conditions but those that each states.
-/
import Derived.Test.YtigjflandggihaaFnExactHirePriceP
namespace Go.Proofs.Ytigjflandggihaa
set_option linter.unusedVariables false
set_option linter.unusedSimpArgs false
theorem s_l00Max_eq (a : Int) : s_l00Max 0 a = some (if 0 > a then 0 else a) := by
  unfold s_l00Max; by_cases h : 0 > a <;> simp [h]
theorem HP_l2 (kS kI : Int → Option (Int × Int)) (days x2 x3 x4 m R : Int) (hR : R = (imax (w64 (days - (w64 (30 * m)))) 0)) (hR0 : 0 ≤ R) (hR1 : R ≤ 3650) (hk : ∀ x, ∃ r, kS x = some r ∧ kI x = some r) :
    ∀ (n N : Nat) (x w : Int), 0 ≤ w → w + n = (R + 6) / 7 → n + 1 < N → ∃ r, s_HirePrice_l2 kS x2 x3 x4 m R N x w = some r ∧ i_HirePrice_l2 kI days x2 x3 x4 m N x w = some r := by
  intro n
  induction n with
  | zero =>
    intro N x w h0 h1 h2
    obtain ⟨N, rfl⟩ := pos_fuel h2
    obtain ⟨N, rfl⟩ := pos_fuel (by omega : 0 < N)
    have e1 : w64 (7 * w) = 7 * w := w64_id (by omega) (by omega)
    have e2 : w64 (R - 7 * w) = R - 7 * w := w64_id (by omega) (by omega)
    have e3 : w64 (R + 6) = R + 6 := w64_id (by omega) (by omega)
    have e4 : Int.tdiv (R + 6) 7 = (R + 6) / 7 := Int.tdiv_eq_ediv_of_nonneg (by omega)
    have e5 : w64 ((R + 6) / 7) = (R + 6) / 7 := w64_id (by omega) (by omega)
    have e6 : w64 (w + 1) = w + 1 := w64_id (by omega) (by omega)
    have e7 : imax (R - 7 * w) 0 = (if 0 > R - 7 * w then 0 else R - 7 * w) := rfl
    have h8 : (if 0 > R - 7 * w then (0 : Int) else R - 7 * w) = 0 := by split <;> omega
    have h9 : w ≤ (R + 6) / 7 := by omega
    have h10 : ¬ (w + 1 ≤ (R + 6) / 7) := by omega
    simp only [s_HirePrice_l2, i_HirePrice_l2, ← hR, e1, e2, e3, e4, e5, e6, e7, s_l00Max_eq, h8, h9, h10, withK_eq, decide_true, cond_true, Option.bind_some, orO_some, beq_self_eq_true, decide_false, cond_false]
    cases (decide (x < 0) || decide (w64 (w64 (w64 (m * x4) + w64 (w * x3)) + w64 (0 * x2)) < x)) <;> exact hk _
  | succ n ih =>
    intro N x w h0 h1 h2
    obtain ⟨N, rfl⟩ := pos_fuel h2
    have e1 : w64 (7 * w) = 7 * w := w64_id (by omega) (by omega)
    have e2 : w64 (R - 7 * w) = R - 7 * w := w64_id (by omega) (by omega)
    have e3 : w64 (R + 6) = R + 6 := w64_id (by omega) (by omega)
    have e4 : Int.tdiv (R + 6) 7 = (R + 6) / 7 := Int.tdiv_eq_ediv_of_nonneg (by omega)
    have e5 : w64 ((R + 6) / 7) = (R + 6) / 7 := w64_id (by omega) (by omega)
    have e6 : w64 (w + 1) = w + 1 := w64_id (by omega) (by omega)
    have e7 : imax (R - 7 * w) 0 = R - 7 * w := if_neg (by omega)
    have e8 : (if 0 > R - 7 * w then (0 : Int) else R - 7 * w) = R - 7 * w := if_neg (by omega)
    have h8 : (R - 7 * w == 0) = false := by simp; omega
    have h9 : w ≤ (R + 6) / 7 := by omega
    simp only [s_HirePrice_l2, i_HirePrice_l2, ← hR, e1, e2, e3, e4, e5, e6, e7, s_l00Max_eq, e8, h8, h9, withK_eq, decide_true, cond_true, Option.bind_some, orO_some, cond_false]
    have := fun x => ih N x (w + 1) (by omega) (by omega) (by omega)
    cases (decide (x < 0) || decide (w64 (w64 (w64 (m * x4) + w64 (w * x3)) + w64 ((R - 7 * w) * x2)) < x)) <;> exact this _
theorem HP_l1 (days x2 x3 x4 : Int) (hd : 1 ≤ days) (hd1 : days ≤ 3650) :
    ∀ (n N : Nat) (x m : Int), 0 ≤ m → m + n = (days + 29) / 30 → n + 600 < N → ∃ r, s_HirePrice_l1 (fun x => some (x, 0)) days x2 x3 x4 N x m = some r ∧ i_HirePrice_l1 days x2 x3 x4 N x m = some r := by
  intro n
  induction n with
  | zero =>
    intro N x m h0 h1 h2
    obtain ⟨N, rfl⟩ := pos_fuel h2
    obtain ⟨M, rfl⟩ := pos_fuel (by omega : 0 < N)
    have e1 : w64 (30 * m) = 30 * m := w64_id (by omega) (by omega)
    have e2 : w64 (days - 30 * m) = days - 30 * m := w64_id (by omega) (by omega)
    have e3 : w64 (days + 29) = days + 29 := w64_id (by omega) (by omega)
    have e4 : Int.tdiv (days + 29) 30 = (days + 29) / 30 := Int.tdiv_eq_ediv_of_nonneg (by omega)
    have e5 : w64 ((days + 29) / 30) = (days + 29) / 30 := w64_id (by omega) (by omega)
    have e6 : w64 (m + 1) = m + 1 := w64_id (by omega) (by omega)
    have e7 : imax (days - 30 * m) 0 = (if 0 > days - 30 * m then 0 else days - 30 * m) := rfl
    have h8 : (if 0 > days - 30 * m then (0 : Int) else days - 30 * m) = 0 := by split <;> omega
    have h9 : m ≤ (days + 29) / 30 := by omega
    have h10 : ¬ (m + 1 ≤ (days + 29) / 30) := by omega
    simp only [s_HirePrice_l1, i_HirePrice_l1, e1, e2, e3, e4, e5, e6, e7, s_l00Max_eq, h8, h9, h10, withK_eq, decide_true, cond_true, Option.bind_some, beq_self_eq_true, decide_false, cond_false]
    exact HP_l2 _ _ days x2 x3 x4 m 0 (by rw [e1, e2, e7, h8]) (by omega) (by omega) (fun x => ⟨_, rfl, rfl⟩) 0 _ _ _ (by omega) (by omega) (by omega)
  | succ n ih =>
    intro N x m h0 h1 h2
    obtain ⟨N, rfl⟩ := pos_fuel h2
    have e1 : w64 (30 * m) = 30 * m := w64_id (by omega) (by omega)
    have e2 : w64 (days - 30 * m) = days - 30 * m := w64_id (by omega) (by omega)
    have e3 : w64 (days + 29) = days + 29 := w64_id (by omega) (by omega)
    have e4 : Int.tdiv (days + 29) 30 = (days + 29) / 30 := Int.tdiv_eq_ediv_of_nonneg (by omega)
    have e5 : w64 ((days + 29) / 30) = (days + 29) / 30 := w64_id (by omega) (by omega)
    have e6 : w64 (m + 1) = m + 1 := w64_id (by omega) (by omega)
    have e7 : imax (days - 30 * m) 0 = days - 30 * m := if_neg (by omega)
    have e8 : (if 0 > days - 30 * m then (0 : Int) else days - 30 * m) = days - 30 * m := if_neg (by omega)
    have h8 : (days - 30 * m == 0) = false := by simp; omega
    have h9 : m ≤ (days + 29) / 30 := by omega
    simp only [s_HirePrice_l1, i_HirePrice_l1, e1, e2, e3, e4, e5, e6, e7, s_l00Max_eq, e8, h8, h9, withK_eq, decide_true, cond_true, Option.bind_some, cond_false]
    exact HP_l2 _ _ days x2 x3 x4 m (days - 30 * m) (by rw [e1, e2, e7]) (by omega) (by omega) (fun x => ih N x (m + 1) (by omega) (by omega) (by omega)) ((days - 30 * m + 6) / 7).toNat _ _ _ (by omega) (by omega) (by omega)
theorem HP (N : Nat) (hN : 900 < N) (a b c d : Int) : ∃ r, s_HirePrice N a b c d = some r ∧ i_HirePrice N a b c d = some r := by
  unfold s_HirePrice i_HirePrice
  simp only [s_l00In, i_between, andO_some, Option.bind_some, orO_some, withK_eq]
  by_cases h : (((!(decide (a ≥ 1) && decide (a ≤ 3650)) || !(decide (b ≥ 0) && decide (b ≤ 100000))) || !(decide (c ≥ 0) && decide (c ≤ 1000000))) || !(decide (d ≥ 0) && decide (d ≤ 10000000))) = true
  · simp only [h, cond_true]; exact ⟨_, rfl, rfl⟩
  · rw [Bool.not_eq_true] at h
    simp only [h, cond_false]
    simp at h
    exact HP_l1 a b c d (by omega) (by omega) ((a + 29) / 30).toNat _ _ _ (by omega) (by omega) (by omega)
theorem law_FnExactHirePrice (a b c d : Int) (_ : wfI64 a) (_ : wfI64 b) (_ : wfI64 c) (_ : wfI64 d) : ∃ N, w_FnExactHirePrice N a b c d = some true := by
  refine ⟨1000, ?_⟩
  obtain ⟨r, h1, h2⟩ := HP 1000 (by omega) a b c d
  unfold w_FnExactHirePrice
  simp only [h1, h2, Option.bind_some, bne_self_eq_false, orO_false, cond_false]
end Go.Proofs.Ytigjflandggihaa
