/-
  Plain lemmas on these functions. No conditions but those that each states.
-/
import Derived.Test.YtoojddajhalimaaDoorFnRibbonSpotsP2
namespace Go.Proofs.YtoojddajhalimaaDoor
set_option linter.unusedVariables false
set_option linter.unusedSimpArgs false
/-! How often a spot has been used; how long a shade lasts. -/
theorem u_round (S s q : Int) (hS : 2 ≤ S) (hq : 0 ≤ q) (h0 : 0 ≤ s) (h1 : s < S) : uI S s (q * per S) = if s > 0 ∧ s < S - 1 then 2 * q else q := by
  have hp : per S = 2 * (S - 1) := rfl
  have e := (Int.ediv_emod_unique (a := q * per S) (b := per S) (r := 0) (q := q) (by omega)).2 ⟨by rw [Int.mul_comm]; omega, by omega, by omega⟩
  unfold uI
  rw [e.1, e.2]
  split <;> (repeat' split) <;> omega
theorem Before_l1 (r : Ribbon) (s st : Int) (h : okR r) (h0 : 0 ≤ s) (h1 : s < r.spots) (kj : Int → Option Int) (hst : st ≤ 1000000) : ∀ (d N : Nat) (k : Int), 0 ≤ k → k + (d : Int) = st → d < N → s_l14Before_l1 kj r st s N (uI r.spots s k) k = kj (uI r.spots s st) := by
  intro d
  induction d with
  | zero =>
    intro N k hk he hN
    obtain ⟨N, rfl⟩ := pos_fuel hN
    have : ¬ k < st := by omega
    have e : k = st := by omega
    subst e
    simp only [s_l14Before_l1, this, decide_false, cond_false]
  | succ d ih =>
    intro N k hk he hN
    obtain ⟨N, rfl⟩ := pos_fuel hN
    have hlt : k < st := by omega
    have hu := u_b r.spots s k h.1 hk
    have hs := u_succ r.spots s k h.1 h0 h1 hk
    have := ih N (k + 1) (by omega) (by omega) (by omega)
    have e1 : w64 (k + 1) = k + 1 := w64_id (by omega) (by omega)
    have e2 : w64 (uI r.spots s k + 1) = uI r.spots s k + 1 := w64_id (by omega) (by omega)
    simp only [s_l14Before_l1, hlt, decide_true, cond_true, withK_eq, sSpot_eq r k h hk, Option.bind_some, e1, e2]
    by_cases c : spI r.spots k = s
    · rw [if_pos c] at hs
      have cb : (spI r.spots k == s) = true := by simpa using c
      rw [cb, cond_true, ← hs, this]
    · rw [if_neg c, Int.add_zero] at hs
      have cb : (spI r.spots k == s) = false := by simpa using c
      rw [cb, cond_false, ← hs, this]
theorem Before_eq (N : Nat) (r : Ribbon) (s st : Int) (h : okR r) (h0 : 0 ≤ s) (h1 : s < r.spots) (hst0 : 0 ≤ st) (hst : st ≤ 1000000) (hN : 1000 < N) : s_l14Before N r st s = some (uI r.spots s st) := by
  have hS := h.1
  have hS2 := h.2.1
  have hp : per r.spots = 2 * (r.spots - 1) := rfl
  obtain ⟨a1, a2, a3, a4⟩ := dm_b (per r.spots) st (by omega) hst0
  have a5 := Int.emod_add_mul_ediv st (per r.spots)
  have e0 : st / per r.spots * per r.spots = per r.spots * (st / per r.spots) := Int.mul_comm _ _
  have hb := u_round r.spots s (st / per r.spots) hS a3 h0 h1
  have e2 : w64 (2 * (st / per r.spots)) = 2 * (st / per r.spots) := w64_id (by omega) (by omega)
  have e3 : w64 (r.spots - 1) = r.spots - 1 := w64_id (by omega) (by omega)
  have hl := Before_l1 r s st h h0 h1 some hst (st % per r.spots).toNat N (st / per r.spots * per r.spots) (Int.mul_nonneg a3 (by omega)) (by omega) (by omega)
  unfold s_l14Before
  have e1 : w64 (2 * w64 (r.spots - 1)) = per r.spots := per_w _ hS hS2
  have e4 : w64 (st / per r.spots * per r.spots) = st / per r.spots * per r.spots := w64_id (by omega) (by omega)
  rw [e1, quoO_pos _ _ hst0 (by omega) (by omega)]
  simp only [Option.bind_some, withK_eq, e1, e4, andO_some, e2, e3]
  rw [hb] at hl
  by_cases c : s > 0 ∧ s < r.spots - 1
  · rw [if_pos c] at hl
    have cb : (decide (s > 0) && decide (s < r.spots - 1)) = true := by simpa using c
    rw [cb, cond_true]; exact hl
  · rw [if_neg c] at hl
    have cb : (decide (s > 0) && decide (s < r.spots - 1)) = false := by
      rw [← Bool.decide_and]; simpa using c
    rw [cb, cond_false]; exact hl
theorem prod_b (r : Ribbon) (s k : Int) (h : okR r) (hk : 0 ≤ k) (hk2 : k ≤ 1000000) : w64 (r.ink - w64 (r.takes * uI r.spots s k)) = r.ink - r.takes * uI r.spots s k := by
  have hu := u_b r.spots s k h.1 hk
  have h1 : 0 ≤ r.takes * uI r.spots s k := Int.mul_nonneg (by have := h.2.2.2.2.1; omega) hu.1
  have h2 : r.takes * uI r.spots s k ≤ 1000 * 1000002 := Int.mul_le_mul (by have := h.2.2.2.2.2; have := h.2.2.2.1; omega) (by omega) hu.1 (by omega)
  rw [w64_id (x := r.takes * _) (by omega) (by omega), w64_id (by have := h.2.2.1; omega) (by have := h.2.2.2.1; omega)]
theorem Max_eq (a b : Int) : s_l00Max a b = some (if a > b then a else b) := by
  unfold s_l00Max
  by_cases c : a > b
  · simp only [c, decide_true, cond_true, if_true]
  · simp only [c, decide_false, cond_false, if_false]
theorem sShade_eq (N : Nat) (r : Ribbon) (k : Int) (h : okR r) (hk : 0 ≤ k) (hk2 : k ≤ 1000000) (hN : 1000 < N) : s_l14Shade N r k = some (shI r k) := by
  have hb := sp_b r.spots k h.1 hk
  unfold s_l14Shade shI
  rw [sSpot_eq r k h hk, Option.bind_some, Before_eq N r _ k h hb.1 hb.2 hk hk2 hN, Option.bind_some, prod_b r _ k h hk hk2, Max_eq, Option.bind_some]
theorem sh_zero (r : Ribbon) (h : okR r) : shI r 0 = r.ink := by
  have hb := sp_b r.spots 0 h.1 (by omega)
  unfold shI
  rw [u_zero _ _ h.1 hb.1 hb.2, Int.mul_zero, Int.sub_zero, if_neg (by have := h.2.2.1; omega)]
theorem idx_set {α : Type} (l : List α) (i j : Int) (v : α) (h0 : 0 ≤ i) (h1 : i < l.length) (hj : 0 ≤ j) : idx (l.set i.toNat v) j = if i = j then some v else idx l j := by
  unfold idx
  rw [if_pos hj, if_pos hj, List.getElem?_set]
  by_cases c : i = j
  · subst c; simp; omega
  · rw [if_neg (by omega), if_neg c]
end Go.Proofs.YtoojddajhalimaaDoor
