/-
  Plain lemmas on these functions. No conditions but those that each states.
-/
import Derived.Test.YtoojddajhalimaaFnShadesP3
namespace Go.Proofs.Ytoojddajhalimaa
set_option linter.unusedVariables false
set_option linter.unusedSimpArgs false
/-! How often a spot has been used; how long a shade lasts. -/
theorem u_round (S s q : Int) (hS : 2 ≤ S) (hq : 0 ≤ q) (h0 : 0 ≤ s) (h1 : s < S) : uI S s (q * per S) = if s > 0 ∧ s < S - 1 then 2 * q else q := by
  have hp : per S = 2 * (S - 1) := rfl
  have e := (Int.ediv_emod_unique (a := q * per S) (b := per S) (r := 0) (q := q) (by omega)).2 ⟨by rw [Int.mul_comm]; omega, by omega, by omega⟩
  unfold uI
  rw [e.1, e.2]
  split <;> (repeat' split) <;> omega
theorem Before_l1 (r : Ribbon) (s st : Int) (h : okR r) (h0 : 0 ≤ s) (h1 : s < r.spots) (kj : Int → Option Int) (hst : st ≤ 1000000) : ∀ (d N : Nat) (k : Int), 0 ≤ k → k + (d : Int) = st → d < N → s_l14Before_l1 kj r st s N (uI r.spots s k) k = kj (uI r.spots s st) := by
  intro d
  induction d with
  | zero =>
    intro N k hk he hN
    obtain ⟨N, rfl⟩ := pos_fuel hN
    have : ¬ k < st := by omega
    have e : k = st := by omega
    subst e
    simp only [s_l14Before_l1, this, decide_false, cond_false]
  | succ d ih =>
    intro N k hk he hN
    obtain ⟨N, rfl⟩ := pos_fuel hN
    have hlt : k < st := by omega
    have hu := u_b r.spots s k h.1 hk
    have hs := u_succ r.spots s k h.1 h0 h1 hk
    have := ih N (k + 1) (by omega) (by omega) (by omega)
    have e1 : w64 (k + 1) = k + 1 := w64_id (by omega) (by omega)
    have e2 : w64 (uI r.spots s k + 1) = uI r.spots s k + 1 := w64_id (by omega) (by omega)
    simp only [s_l14Before_l1, hlt, decide_true, cond_true, withK_eq, sSpot_eq r k h hk, Option.bind_some, e1, e2]
    by_cases c : spI r.spots k = s
    · rw [if_pos c] at hs
      have cb : (spI r.spots k == s) = true := by simpa using c
      rw [cb, cond_true, ← hs, this]
    · rw [if_neg c, Int.add_zero] at hs
      have cb : (spI r.spots k == s) = false := by simpa using c
      rw [cb, cond_false, ← hs, this]
theorem Before_eq (N : Nat) (r : Ribbon) (s st : Int) (h : okR r) (h0 : 0 ≤ s) (h1 : s < r.spots) (hst0 : 0 ≤ st) (hst : st ≤ 1000000) (hN : 1000 < N) : s_l14Before N r st s = some (uI r.spots s st) := by
  have hS := h.1
  have hS2 := h.2.1
  have hp : per r.spots = 2 * (r.spots - 1) := rfl
  obtain ⟨a1, a2, a3, a4⟩ := dm_b (per r.spots) st (by omega) hst0
  have a5 := Int.emod_add_mul_ediv st (per r.spots)
  have e0 : st / per r.spots * per r.spots = per r.spots * (st / per r.spots) := Int.mul_comm _ _
  have hb := u_round r.spots s (st / per r.spots) hS a3 h0 h1
  have e2 : w64 (2 * (st / per r.spots)) = 2 * (st / per r.spots) := w64_id (by omega) (by omega)
  have e3 : w64 (r.spots - 1) = r.spots - 1 := w64_id (by omega) (by omega)
  have hl := Before_l1 r s st h h0 h1 some hst (st % per r.spots).toNat N (st / per r.spots * per r.spots) (Int.mul_nonneg a3 (by omega)) (by omega) (by omega)
  unfold s_l14Before
  have e1 : w64 (2 * w64 (r.spots - 1)) = per r.spots := per_w _ hS hS2
  have e4 : w64 (st / per r.spots * per r.spots) = st / per r.spots * per r.spots := w64_id (by omega) (by omega)
  rw [e1, quoO_pos _ _ hst0 (by omega) (by omega)]
  simp only [Option.bind_some, withK_eq, e1, e4, andO_some, e2, e3]
  rw [hb] at hl
  by_cases c : s > 0 ∧ s < r.spots - 1
  · rw [if_pos c] at hl
    have cb : (decide (s > 0) && decide (s < r.spots - 1)) = true := by simpa using c
    rw [cb, cond_true]; exact hl
  · rw [if_neg c] at hl
    have cb : (decide (s > 0) && decide (s < r.spots - 1)) = false := by
      rw [← Bool.decide_and]; simpa using c
    rw [cb, cond_false]; exact hl
theorem prod_b (r : Ribbon) (s k : Int) (h : okR r) (hk : 0 ≤ k) (hk2 : k ≤ 1000000) : w64 (r.ink - w64 (r.takes * uI r.spots s k)) = r.ink - r.takes * uI r.spots s k := by
  have hu := u_b r.spots s k h.1 hk
  have h1 : 0 ≤ r.takes * uI r.spots s k := Int.mul_nonneg (by have := h.2.2.2.2.1; omega) hu.1
  have h2 : r.takes * uI r.spots s k ≤ 1000 * 1000002 := Int.mul_le_mul (by have := h.2.2.2.2.2; have := h.2.2.2.1; omega) (by omega) hu.1 (by omega)
  rw [w64_id (x := r.takes * _) (by omega) (by omega), w64_id (by have := h.2.2.1; omega) (by have := h.2.2.2.1; omega)]
theorem Max_eq (a b : Int) : s_l00Max a b = some (if a > b then a else b) := by
  unfold s_l00Max
  by_cases c : a > b
  · simp only [c, decide_true, cond_true, if_true]
  · simp only [c, decide_false, cond_false, if_false]
theorem sShade_eq (N : Nat) (r : Ribbon) (k : Int) (h : okR r) (hk : 0 ≤ k) (hk2 : k ≤ 1000000) (hN : 1000 < N) : s_l14Shade N r k = some (shI r k) := by
  have hb := sp_b r.spots k h.1 hk
  unfold s_l14Shade shI
  rw [sSpot_eq r k h hk, Option.bind_some, Before_eq N r _ k h hb.1 hb.2 hk hk2 hN, Option.bind_some, prod_b r _ k h hk hk2, Max_eq, Option.bind_some]
theorem sh_zero (r : Ribbon) (h : okR r) : shI r 0 = r.ink := by
  have hb := sp_b r.spots 0 h.1 (by omega)
  unfold shI
  rw [u_zero _ _ h.1 hb.1 hb.2, Int.mul_zero, Int.sub_zero, if_neg (by have := h.2.2.1; omega)]
theorem idx_set {α : Type} (l : List α) (i j : Int) (v : α) (h0 : 0 ≤ i) (h1 : i < l.length) (hj : 0 ≤ j) : idx (l.set i.toNat v) j = if i = j then some v else idx l j := by
  unfold idx
  rw [if_pos hj, if_pos hj, List.getElem?_set]
  by_cases c : i = j
  · subst c; simp; omega
  · rw [if_neg (by omega), if_neg c]
theorem until_eq (r : Ribbon) (least : Int) (h : okR r) : ∀ (N : Nat) (k : Int) (arr : List Int), 0 ≤ k → k ≤ 100001 → (arr.length : Int) = r.spots → (∀ s, 0 ≤ s → s < r.spots → idx arr s = some (uI r.spots s k)) →
    s_l14Until_l1 (some 100001) r least N arr k = i_Ribbon_until_l1 some r least N k := by
  intro N
  induction N with
  | zero => intros; rfl
  | succ N ih =>
    intro k arr hk hk2 hl ha
    unfold s_l14Until_l1 i_Ribbon_until_l1
    by_cases c : k ≤ 100000
    · have hb := sp_b r.spots k h.1 hk
      have hu := u_b r.spots (spI r.spots k) k h.1 hk
      have e1 : w64 (k + 1) = k + 1 := w64_id (by omega) (by omega)
      have e2 : w64 (uI r.spots (spI r.spots k) k + 1) = uI r.spots (spI r.spots k) k + 1 := w64_id (by omega) (by omega)
      simp only [c, decide_true, cond_true, sSpot_eq r k h hk, Option.bind_some, ha _ hb.1 hb.2, prod_b r _ k h hk (by omega), Max_eq, iShade_eq r k h hk (by omega), andO_true, e1, e2]
      have e3 : (if 0 > r.ink - r.takes * uI r.spots (spI r.spots k) k then 0 else r.ink - r.takes * uI r.spots (spI r.spots k) k) = shI r k := rfl
      rw [e3]
      by_cases d : shI r k < least
      · have d2 : ¬ shI r k ≥ least := by omega
        simp only [d, d2, decide_true, decide_false, cond_true, cond_false]
      · have d2 : shI r k ≥ least := by omega
        simp only [d, d2, decide_true, decide_false, cond_true, cond_false]
        refine ih (k + 1) _ (by omega) (by omega) (by rw [List.length_set]; exact hl) fun s h0 h1 => ?_
        rw [idx_set _ _ _ _ hb.1 (by omega) h0, u_succ r.spots s k h.1 h0 h1 hk]
        by_cases g : spI r.spots k = s
        · rw [if_pos g, if_pos g, g]
        · rw [if_neg g, if_neg g, ha s h0 h1, Int.add_zero]
    · have e : k = 100001 := by omega
      subst e
      simp only [c, decide_false, cond_false, andO_false, Option.bind_some]
theorem Until_eq (N : Nat) (r : Ribbon) (least : Int) (h : okR r) : s_l14Until N r least = i_Ribbon_until N r least := by
  have hS := h.1
  have hS2 := h.2.1
  unfold s_l14Until i_Ribbon_until
  have e : r.spots = ((r.spots.toNat : Nat) : Int) := by omega
  rw [show mk r.spots (0 : Int) = some (List.replicate r.spots.toNat 0) from by rw [e]; exact mk_some _ _ (by unfold LIM; omega), Option.bind_some]
  simp only [withK_eq]
  refine until_eq r least h N 0 _ (by omega) (by omega) (by rw [List.length_replicate]; omega) fun s h0 h1 => ?_
  rw [idx_int _ _ h0 (by rw [List.length_replicate]; omega), List.getElem_replicate, u_zero _ _ hS h0 h1]
def Fst (r : Ribbon) (least m : Int) : Prop := 0 ≤ m ∧ m ≤ 100001 ∧ (∀ j, 0 ≤ j → j < m → least ≤ shI r j) ∧ (m ≤ 100000 → shI r m < least)
theorem Fst.uniq {r : Ribbon} {least m m' : Int} (h : Fst r least m) (h' : Fst r least m') : m = m' := by
  obtain ⟨a1, a2, a3, a4⟩ := h
  obtain ⟨b1, b2, b3, b4⟩ := h'
  by_cases c : m < m'
  · have := b3 m a1 c
    have := a4 (by omega)
    omega
  · by_cases d : m' < m
    · have := a3 m' b1 d
      have := b4 (by omega)
      omega
    · omega
theorem until_fst (r : Ribbon) (least : Int) (h : okR r) (kj : Int → Option Int) : ∀ (d N : Nat) (k : Int), 0 ≤ k → k + (d : Int) = 100001 → d < N → (∀ j, 0 ≤ j → j < k → least ≤ shI r j) → ∃ m, i_Ribbon_until_l1 kj r least N k = kj m ∧ Fst r least m := by
  intro d
  induction d with
  | zero =>
    intro N k hk he hN hj
    obtain ⟨N, rfl⟩ := pos_fuel hN
    have c : ¬ k ≤ 100000 := by omega
    exact ⟨k, by simp only [i_Ribbon_until_l1, c, decide_false, andO_false, Option.bind_some, cond_false], hk, by omega, hj, by omega⟩
  | succ d ih =>
    intro N k hk he hN hj
    obtain ⟨N, rfl⟩ := pos_fuel hN
    have c : k ≤ 100000 := by omega
    have e1 : w64 (k + 1) = k + 1 := w64_id (by omega) (by omega)
    by_cases g : shI r k ≥ least
    · obtain ⟨m, h1, h2⟩ := ih N (k + 1) (by omega) (by omega) (by omega) (fun j h0 h1 => by
        by_cases q : j = k
        · subst q; omega
        · exact hj j h0 (by omega))
      exact ⟨m, by simp only [i_Ribbon_until_l1, c, decide_true, andO_true, iShade_eq r k h hk (by omega), Option.bind_some, g, cond_true, e1, h1], h2⟩
    · exact ⟨k, by simp only [i_Ribbon_until_l1, c, decide_true, andO_true, iShade_eq r k h hk (by omega), Option.bind_some, g, decide_false, cond_false], hk, by omega, hj, fun _ => by omega⟩
/-- the first stroke that is too pale -/
def U (r : Ribbon) (least : Int) : Int := (i_Ribbon_until 100002 r least).getD 0
theorem until_val (N : Nat) (r : Ribbon) (least : Int) (h : okR r) (hN : 100001 < N) : i_Ribbon_until N r least = some (U r least) ∧ Fst r least (U r least) := by
  obtain ⟨m, h1, h2⟩ := until_fst r least h some 100001 N 0 (by omega) (by omega) hN (fun j h0 h1 => by omega)
  obtain ⟨m', h1', h2'⟩ := until_fst r least h some 100001 100002 0 (by omega) (by omega) (by omega) (fun j h0 h1 => by omega)
  have e : ∀ M, i_Ribbon_until M r least = i_Ribbon_until_l1 some r least M 0 := fun M => rfl
  have hU : U r least = m' := by unfold U; rw [e, h1']; rfl
  rw [hU, e, h1, h2.uniq h2']
  exact ⟨rfl, h2'⟩
theorem U_pos (r : Ribbon) (least : Int) (h : okR r) (hl : least ≤ r.ink) : 1 ≤ U r least ∧ U r least ≤ 100001 := by
  obtain ⟨_, a1, a2, a3, a4⟩ := until_val 100002 r least h (by omega)
  refine ⟨?_, a2⟩
  by_cases c : U r least = 0
  · have := a4 (by omega)
    rw [c, sh_zero r h] at this
    omega
  · omega
def ndI (r : Ribbon) (strokes least : Int) : Int := (strokes + U r least - 1) / U r least
theorem needed_val (N : Nat) (r : Ribbon) (strokes least : Int) (h : okR r) (hl : least ≤ r.ink) (h0 : 0 ≤ strokes) (h1 : strokes ≤ 100000) (hN : 100001 < N) : i_Ribbon_needed N r strokes least = some (ndI r strokes least) := by
  obtain ⟨u1, u2⟩ := U_pos r least h hl
  unfold i_Ribbon_needed ndI
  rw [(until_val N r least h hN).1, Option.bind_some, w64_id (x := strokes + _) (by omega) (by omega), w64_id (by omega) (by omega), quoO_pos _ _ (by omega) (by omega) (by omega), Option.bind_some]
theorem Many_eq (N : Nat) (r : Ribbon) (strokes least : Int) (h : okR r) : s_l14Many N r strokes least = i_Ribbon_needed N r strokes least := by
  unfold s_l14Many i_Ribbon_needed
  rw [Until_eq N r least h]
end Go.Proofs.Ytoojddajhalimaa
