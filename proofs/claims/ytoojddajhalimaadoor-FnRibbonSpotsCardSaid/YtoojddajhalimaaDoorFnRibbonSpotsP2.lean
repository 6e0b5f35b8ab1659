/-
  Plain lemmas on these functions. No conditions but those that each states.
-/
import Derived.Test.YtoojddajhalimaaDoorFnRibbonSpotsP
namespace Go.Proofs.YtoojddajhalimaaDoor
set_option linter.unusedVariables false
set_option linter.unusedSimpArgs false
/-! The spots of a ribbon, in plain numbers. -/
def per (S : Int) : Int := 2 * (S - 1)
def spI (S k : Int) : Int := if k % per S ≥ S then per S - k % per S else k % per S
def uI (S s k : Int) : Int :=
  if s = 0 ∨ s = S - 1 then k / per S + (if s < k % per S then 1 else 0)
  else k / per S + (if s < k % per S then 1 else 0) + k / per S + (if per S - s < k % per S then 1 else 0)
theorem dm_step (P k : Int) (hP : 0 < P) : (k % P + 1 < P ∧ (k + 1) / P = k / P ∧ (k + 1) % P = k % P + 1) ∨ (k % P + 1 = P ∧ (k + 1) / P = k / P + 1 ∧ (k + 1) % P = 0) := by
  have h0 := Int.emod_nonneg k (by omega : P ≠ 0)
  have h1 := Int.emod_lt_of_pos k hP
  have h2 := Int.emod_add_mul_ediv k P
  by_cases h : k % P + 1 < P
  · have := (Int.ediv_emod_unique (a := k + 1) (b := P) (r := k % P + 1) (q := k / P) hP).2 ⟨by omega, by omega, h⟩
    exact .inl ⟨h, this.1, this.2⟩
  · have := (Int.ediv_emod_unique (a := k + 1) (b := P) (r := 0) (q := k / P + 1) hP).2 ⟨by rw [Int.mul_add]; omega, by omega, hP⟩
    exact .inr ⟨by omega, this.1, this.2⟩
theorem dm_b (P k : Int) (hP : 2 ≤ P) (hk : 0 ≤ k) : 0 ≤ k % P ∧ k % P < P ∧ 0 ≤ k / P ∧ 2 * (k / P) ≤ k := by
  have h0 := Int.emod_nonneg k (by omega : P ≠ 0)
  have h1 := Int.emod_lt_of_pos k (by omega : 0 < P)
  have h2 := Int.emod_add_mul_ediv k P
  have h3 := Int.ediv_nonneg hk (by omega : 0 ≤ P)
  have h4 : 2 * (k / P) ≤ P * (k / P) := Int.mul_le_mul_of_nonneg_right hP h3
  exact ⟨h0, h1, h3, by omega⟩
theorem u_succ (S s k : Int) (hS : 2 ≤ S) (h0 : 0 ≤ s) (h1 : s < S) (hk : 0 ≤ k) : uI S s (k + 1) = uI S s k + (if spI S k = s then 1 else 0) := by
  unfold uI spI
  obtain ⟨a1, a2, a3, a4⟩ := dm_b (per S) k (by unfold per; omega) hk
  have hp : per S = 2 * (S - 1) := rfl
  rcases dm_step (per S) k (by unfold per; omega) with ⟨b1, b2, b3⟩ | ⟨b1, b2, b3⟩
  · rw [b2, b3]
    generalize k % per S = r at *
    generalize k / per S = q at *
    split <;> (repeat' split) <;> omega
  · rw [b2, b3]
    generalize k % per S = r at *
    generalize k / per S = q at *
    split <;> (repeat' split) <;> omega
theorem u_zero (S s : Int) (hS : 2 ≤ S) (h0 : 0 ≤ s) (h1 : s < S) : uI S s 0 = 0 := by
  unfold uI
  have hp : per S = 2 * (S - 1) := rfl
  simp only [Int.zero_ediv, Int.zero_emod]
  split <;> (repeat' split) <;> omega
theorem sp_b (S k : Int) (hS : 2 ≤ S) (hk : 0 ≤ k) : 0 ≤ spI S k ∧ spI S k < S := by
  unfold spI
  obtain ⟨a1, a2, a3, a4⟩ := dm_b (per S) k (by unfold per; omega) hk
  have hp : per S = 2 * (S - 1) := rfl
  split <;> omega
theorem u_b (S s k : Int) (hS : 2 ≤ S) (hk : 0 ≤ k) : 0 ≤ uI S s k ∧ uI S s k ≤ k + 2 := by
  unfold uI
  obtain ⟨a1, a2, a3, a4⟩ := dm_b (per S) k (by unfold per; omega) hk
  split <;> (repeat' split) <;> omega
def shI (r : Ribbon) (k : Int) : Int := if 0 > r.ink - r.takes * uI r.spots (spI r.spots k) k then 0 else r.ink - r.takes * uI r.spots (spI r.spots k) k
def okR (r : Ribbon) : Prop := 2 ≤ r.spots ∧ r.spots ≤ 200 ∧ 1 ≤ r.ink ∧ r.ink ≤ 1000 ∧ 1 ≤ r.takes ∧ r.takes ≤ r.ink
def vR (r : Ribbon) : Bool := decide (2 ≤ r.spots ∧ r.spots ≤ 200 ∧ 1 ≤ r.ink ∧ r.ink ≤ 1000 ∧ 1 ≤ r.takes ∧ r.takes ≤ r.ink)
theorem vR_iff {r : Ribbon} : vR r = true ↔ okR r := by unfold vR okR; simp
theorem btw_eq (n a b : Int) : i_between n a b = some (decide (a ≤ n ∧ n ≤ b)) := by
  unfold i_between
  rw [andO_some, Option.bind_some]
  congr 1
  rw [← Bool.decide_and]
theorem sIn_eq (n a b : Int) : s_l00In n a b = some (decide (a ≤ n ∧ n ≤ b)) := by
  unfold s_l00In
  rw [andO_some, Option.bind_some]
  congr 1
  rw [← Bool.decide_and]
theorem iValid_eq (r : Ribbon) : i_ValidRibbon r = some (vR r) := by
  unfold i_ValidRibbon vR
  simp only [btw_eq, Option.bind_some, andO_some]
  simp only [← Bool.decide_and, and_assoc]
theorem sValid_eq (r : Ribbon) : s_l14Ok r = some (vR r) := by
  unfold s_l14Ok vR
  simp only [sIn_eq, Option.bind_some, andO_some]
  simp only [← Bool.decide_and, and_assoc]
theorem per_w (S : Int) (h : 2 ≤ S) (h2 : S ≤ 200) : w64 (2 * w64 (S - 1)) = per S := by
  unfold per
  rw [w64_id (x := S - 1) (by omega) (by omega), w64_id (by omega) (by omega)]
theorem remO_pos (x n : Int) (h0 : 0 ≤ x) (hn : 0 < n) : remO x n = some (x % n) := by
  unfold remO
  rw [if_neg (by omega), Int.tmod_eq_emod_of_nonneg h0]
theorem quoO_pos (x n : Int) (h0 : 0 ≤ x) (h1 : x ≤ 9223372036854775807) (hn : 0 < n) : quoO x n = some (x / n) := by
  unfold quoO
  have h2 := Int.ediv_nonneg h0 (by omega : 0 ≤ n)
  have h3 := Int.ediv_le_self n h0
  rw [if_neg (by omega), Int.tdiv_eq_ediv_of_nonneg h0, w64_id (by omega) (by omega)]
theorem iPer_eq (r : Ribbon) (h : okR r) : i_Ribbon_period r = some (per r.spots) := by
  unfold i_Ribbon_period
  rw [per_w _ h.1 h.2.1]
theorem iSpot_eq (r : Ribbon) (k : Int) (h : okR r) (hk : 0 ≤ k) : i_Ribbon_spot r k = some (spI r.spots k) := by
  have hS := h.1
  have hS2 := h.2.1
  have hp : per r.spots = 2 * (r.spots - 1) := rfl
  obtain ⟨a1, a2, a3, a4⟩ := dm_b (per r.spots) k (by omega) hk
  unfold i_Ribbon_spot spI
  rw [iPer_eq r h, Option.bind_some, remO_pos _ _ hk (by omega), Option.bind_some]
  by_cases c : k % per r.spots ≥ r.spots
  · simp only [c, decide_true, cond_true, Option.bind_some, if_true]
    rw [w64_id (by omega) (by omega)]
  · simp only [c, decide_false, cond_false, if_false]
theorem sSpot_eq (r : Ribbon) (k : Int) (h : okR r) (hk : 0 ≤ k) : s_l14Spot r k = some (spI r.spots k) := by
  have hS := h.1
  have hS2 := h.2.1
  have hp : per r.spots = 2 * (r.spots - 1) := rfl
  obtain ⟨a1, a2, a3, a4⟩ := dm_b (per r.spots) k (by omega) hk
  unfold s_l14Spot spI
  rw [per_w _ h.1 h.2.1, remO_pos _ _ hk (by omega), Option.bind_some]
  by_cases c : k % per r.spots ≥ r.spots
  · simp only [c, decide_true, cond_true, if_true]
    rw [w64_id (by omega) (by omega)]
  · simp only [c, decide_false, cond_false, if_false]
theorem iUses_eq (r : Ribbon) (s k : Int) (h : okR r) (h0 : 0 ≤ s) (h1 : s < r.spots) (hk : 0 ≤ k) (hk2 : k ≤ 1000000) : i_Ribbon_uses r s k = some (uI r.spots s k) := by
  have hS := h.1
  have hS2 := h.2.1
  have hp : per r.spots = 2 * (r.spots - 1) := rfl
  obtain ⟨a1, a2, a3, a4⟩ := dm_b (per r.spots) k (by omega) hk
  unfold i_Ribbon_uses uI i_Ribbon_isEnd
  simp only [iPer_eq r h, Option.bind_some, quoO_pos k _ hk (by omega) (by omega : 0 < per r.spots), remO_pos k _ hk (by omega : 0 < per r.spots), withK_eq, orO_some]
  generalize k % per r.spots = q at *
  generalize k / per r.spots = p at *
  have e1 : w64 (r.spots - 1) = r.spots - 1 := w64_id (by omega) (by omega)
  have e2 : w64 (per r.spots - s) = per r.spots - s := w64_id (by omega) (by omega)
  have e3 : w64 (p + 1) = p + 1 := w64_id (by omega) (by omega)
  have e4 : w64 (p + p) = p + p := w64_id (by omega) (by omega)
  have e5 : w64 (p + 1 + p) = p + 1 + p := w64_id (by omega) (by omega)
  have e6 : w64 (p + p + 1) = p + p + 1 := w64_id (by omega) (by omega)
  have e7 : w64 (p + 1 + p + 1) = p + 1 + p + 1 := w64_id (by omega) (by omega)
  have eb : (s == 0 || s == r.spots - 1) = decide (s = 0 ∨ s = r.spots - 1) := by rw [Bool.decide_or]; rfl
  simp only [e1, e2, eb]
  by_cases c2 : (s = 0 ∨ s = r.spots - 1)
  · by_cases c1 : s < q
    · simp only [c1, c2, decide_true, cond_true, if_true, e3, Option.bind_some]
    · simp only [c1, c2, decide_true, decide_false, cond_true, cond_false, if_true, if_false, Option.bind_some, Int.add_zero]
  · by_cases c1 : s < q
    · by_cases c4 : per r.spots - s < q
      · simp only [c1, c2, c4, decide_true, decide_false, cond_true, cond_false, if_true, if_false, e3, e5, e7, Option.bind_some]
      · simp only [c1, c2, c4, decide_true, decide_false, cond_true, cond_false, if_true, if_false, e3, e5, Option.bind_some, Int.add_zero]
    · by_cases c4 : per r.spots - s < q
      · simp only [c1, c2, c4, decide_true, decide_false, cond_true, cond_false, if_true, if_false, e4, e6, Option.bind_some, Int.add_zero]
      · simp only [c1, c2, c4, decide_true, decide_false, cond_true, cond_false, if_true, if_false, e4, Option.bind_some, Int.add_zero]
theorem iShade_eq (r : Ribbon) (k : Int) (h : okR r) (hk : 0 ≤ k) (hk2 : k ≤ 1000000) : i_Ribbon_shade r k = some (shI r k) := by
  have hb := sp_b r.spots k h.1 hk
  have hu := u_b r.spots (spI r.spots k) k h.1 hk
  have h1 : 0 ≤ r.takes * uI r.spots (spI r.spots k) k := Int.mul_nonneg (by have := h.2.2.2.2.1; omega) hu.1
  have h2 : r.takes * uI r.spots (spI r.spots k) k ≤ 1000 * 1000002 := Int.mul_le_mul (by have := h.2.2.2.2.2; have := h.2.2.2.1; omega) (by omega) hu.1 (by omega)
  unfold i_Ribbon_shade shI imax
  rw [iSpot_eq r k h hk, Option.bind_some, iUses_eq r _ k h hb.1 hb.2 hk hk2, Option.bind_some, w64_id (x := r.takes * _) (by omega) (by omega), w64_id (by have := h.2.2.1; omega) (by have := h.2.2.2.1; omega)]
end Go.Proofs.YtoojddajhalimaaDoor
