/-
  Plain lemmas on these functions. No conditions but those that each states.
-/
import Derived.Test.YtimcachjcocjmaaFnDrillSetsP6
namespace Go.Proofs.Ytimcachjcocjmaa
set_option linter.unusedVariables false
set_option linter.unusedSimpArgs false
/-! The best and the fewest drills. -/
theorem bits_zero (n : Nat) : bits 0 n = [] := by
  unfold bits
  rw [List.filter_eq_nil_iff]
  intro i _
  simp
def BI (L : List Drill) (ls : Str) (cs : List Int) (mx : Int) (i : Nat) (l : List Int) (a m : Int) : Prop :=
  (i = 0 ∧ l = [] ∧ a = -1 ∧ m = 0) ∨ (∃ k, k < i ∧ l = ints (bits k L.length) ∧ a = cov (lets L (bits k L.length)) ls cs ∧ m = mins L (bits k L.length) ∧ m ≤ mx ∧ ∀ j, j < i → mins L (bits j L.length) ≤ mx → cov (lets L (bits j L.length)) ls cs < a ∨ (cov (lets L (bits j L.length)) ls cs = a ∧ m ≤ mins L (bits j L.length)))
theorem best_l1 (L : List Drill) (hL : GD L) (ls : Str) (cs : List Int) (hlen : ls.length = cs.length) (hl : ls.length ≤ 30) (hc : ∀ x ∈ cs, 0 ≤ x ∧ x ≤ 1000) (mx : Int) (hmx : 0 ≤ mx) (q : Nat) (hq : q ≤ 64) (kj : List Int → Int → Option (List Int × Int × Int)) : ∀ (n i N : Nat) (l : List Int) (a m : Int), i + n = q → n + 400 < N → BI L ls cs mx i l a m → ∃ l' a' m', BI L ls cs mx q l' a' m' ∧ i_BestDrills_l1 kj L ls cs mx (q : Int) N l a m (i : Int) = kj l' a' := by
  have h6 := hL.1
  intro n
  induction n with
  | zero =>
    intro i N l a m hi hN h
    obtain ⟨N, rfl⟩ := pos_fuel (show 0 < N by omega)
    have hz : ¬ (i : Int) < (q : Int) := by omega
    simp only [i_BestDrills_l1, hz, decide_false, cond_false]
    have : i = q := by omega
    exact ⟨l, a, m, this ▸ h, rfl⟩
  | succ n ih =>
    intro i N l a m hi hN h
    obtain ⟨N, rfl⟩ := pos_fuel (show 0 < N by omega)
    have hz : (i : Int) < (q : Int) := by omega
    have hix := bits_ix i L.length h6
    obtain ⟨e1, c0, c1⟩ := cov_ok L hL (bits i L.length) hix ls cs hlen hl hc N (by omega)
    obtain ⟨e2, m0, m1⟩ := mins_ok L hL (bits i L.length) hix N (by omega)
    obtain ⟨r, e3⟩ := cmp_ok (ints (bits i L.length)) l (by rw [ints_len]; exact hix.1) N (by omega)
    simp only [i_BestDrills_l1, hz, decide_true, cond_true, withK_eq]
    rw [chosen_ok i L.length (by omega) h6 N (by omega), Option.bind_some, e2, Option.bind_some, w64_nat i (by omega)]
    have keep : (mins L (bits i L.length) ≤ mx → cov (lets L (bits i L.length)) ls cs < a ∨ (cov (lets L (bits i L.length)) ls cs = a ∧ m ≤ mins L (bits i L.length))) → i ≠ 0 → BI L ls cs mx (i + 1) l a m := fun hk h0 => by
      rcases h with ⟨h1, _⟩ | ⟨k, h1, h2, h3, h4, h5, h7⟩
      · exact absurd h1 h0
      · refine .inr ⟨k, by omega, h2, h3, h4, h5, fun j hj hm => ?_⟩
        by_cases hji : j = i
        · subst hji; exact hk hm
        · exact h7 j (by omega) hm
    have upd : mins L (bits i L.length) ≤ mx → (a < cov (lets L (bits i L.length)) ls cs ∨ (cov (lets L (bits i L.length)) ls cs = a ∧ mins L (bits i L.length) ≤ m)) → BI L ls cs mx (i + 1) (ints (bits i L.length)) (cov (lets L (bits i L.length)) ls cs) (mins L (bits i L.length)) := fun hm hk => by
      refine .inr ⟨i, by omega, rfl, rfl, rfl, hm, fun j hj hmj => ?_⟩
      by_cases hji : j = i
      · subst hji; exact .inr ⟨rfl, Int.le_refl _⟩
      · rcases h with ⟨h1, _⟩ | ⟨k, h1, h2, h3, h4, h5, h7⟩
        · omega
        · rcases h7 j (by omega) hmj with g | ⟨g1, g2⟩
          · rcases hk with hk | ⟨hk1, hk2⟩
            · exact .inl (by omega)
            · exact .inl (by omega)
          · rcases hk with hk | ⟨hk1, hk2⟩
            · exact .inl (by omega)
            · exact .inr ⟨by omega, by omega⟩
    have hzero : i = 0 → mins L (bits i L.length) = 0 ∧ a = -1 := fun h0 => by
      subst h0
      refine ⟨by rw [bits_zero]; rfl, ?_⟩
      rcases h with ⟨_, _, h3, _⟩ | ⟨k, h1, _⟩
      · exact h3
      · omega
    generalize hM : mins L (bits i L.length) = M at *
    generalize hC : cov (lets L (bits i L.length)) ls cs = C at *
    by_cases hgt : M > mx
    · simp only [hgt, decide_true, cond_true]
      have h0 : i ≠ 0 := fun h0 => by have := (hzero h0).1; omega
      exact ih (i + 1) N l a m (by omega) (by omega) (keep (fun hm => by omega) h0)
    · simp only [hgt, decide_false, cond_false]
      rw [e1, Option.bind_some]
      simp only [orO_some, andO_some, Option.bind_some, e3]
      have goU : (a < C ∨ (C = a ∧ M ≤ m)) → ∃ l' a' m', BI L ls cs mx q l' a' m' ∧ i_BestDrills_l1 kj L ls cs mx (q : Int) N (ints (bits i L.length)) C M ((i + 1 : Nat) : Int) = kj l' a' := fun hk => ih (i + 1) N _ _ _ (by omega) (by omega) (upd (by omega) hk)
      have goK : (C < a ∨ (C = a ∧ m ≤ M)) → ∃ l' a' m', BI L ls cs mx q l' a' m' ∧ i_BestDrills_l1 kj L ls cs mx (q : Int) N l a m ((i + 1 : Nat) : Int) = kj l' a' := fun hk => by
        have h0 : i ≠ 0 := fun h0 => by have := (hzero h0).2; omega
        exact ih (i + 1) N l a m (by omega) (by omega) (keep (fun _ => hk) h0)
      cases h57 : (C == a && M == m)
      · simp only [cond_false]
        cases h48 : (decide (C > a) || (C == a && decide (M < m)))
        · simp only [cond_false]
          simp only [Bool.or_eq_false_iff, Bool.and_eq_false_iff, decide_eq_false_iff_not, beq_eq_false_iff_ne] at h48
          refine goK ?_
          by_cases hca : C = a
          · refine .inr ⟨hca, ?_⟩
            rcases h48.2 with g | g
            · exact absurd hca g
            · omega
          · exact .inl (by omega)
        · simp only [cond_true]
          simp only [Bool.or_eq_true, Bool.and_eq_true, decide_eq_true_eq, beq_iff_eq] at h48
          refine goU ?_
          rcases h48 with g | ⟨g1, g2⟩
          · exact .inl (by omega)
          · exact .inr ⟨g1, by omega⟩
      · simp only [Bool.and_eq_true, beq_iff_eq] at h57
        simp only [cond_true]
        cases decide (r < 0)
        · simp only [cond_false]; exact goK (.inr ⟨h57.1, by omega⟩)
        · simp only [cond_true]; exact goU (.inr ⟨h57.1, by omega⟩)
def FI (L : List Drill) (ls : Str) (i : Nat) (l : List Int) (f : Bool) : Prop :=
  (f = false ∧ ∀ j, j < i → lft (lets L (bits j L.length)) ls ≠ []) ∨ (f = true ∧ ∃ k, k < i ∧ l = ints (bits k L.length) ∧ lft (lets L (bits k L.length)) ls = [] ∧ ∀ j, j < i → lft (lets L (bits j L.length)) ls = [] → l.length ≤ (bits j L.length).length)
theorem few_l1 (L : List Drill) (hL : GD L) (ls : Str) (hl : ls.length ≤ 30) (q : Nat) (hq : q ≤ 64) (kj : List Int → Bool → Option (List Int × Int)) : ∀ (n i N : Nat) (l : List Int) (f : Bool), i + n = q → n + 400 < N → FI L ls i l f → ∃ l' f', FI L ls q l' f' ∧ i_FewestDrills_l1 kj L ls (q : Int) N l f (i : Int) = kj l' f' := by
  have h6 := hL.1
  intro n
  induction n with
  | zero =>
    intro i N l f hi hN h
    obtain ⟨N, rfl⟩ := pos_fuel (show 0 < N by omega)
    have hz : ¬ (i : Int) < (q : Int) := by omega
    simp only [i_FewestDrills_l1, hz, decide_false, cond_false]
    have : i = q := by omega
    exact ⟨l, f, this ▸ h, rfl⟩
  | succ n ih =>
    intro i N l f hi hN h
    obtain ⟨N, rfl⟩ := pos_fuel (show 0 < N by omega)
    have hz : (i : Int) < (q : Int) := by omega
    have hix := bits_ix i L.length h6
    obtain ⟨r, e3⟩ := cmp_ok (ints (bits i L.length)) l (by rw [ints_len]; exact hix.1) N (by omega)
    simp only [i_FewestDrills_l1, hz, decide_true, cond_true, withK_eq]
    rw [chosen_ok i L.length (by omega) h6 N (by omega), Option.bind_some, left_ok L hL _ hix ls hl N (by omega), Option.bind_some, w64_nat i (by omega), e3]
    simp only [Option.bind_some, orO_some, andO_some]
    by_cases hne : lft (lets L (bits i L.length)) ls = []
    · have hb : (lft (lets L (bits i L.length)) ls != []) = false := by rw [hne]; rfl
      rw [hb]
      simp only [cond_false]
      have upd : (f = false ∨ (bits i L.length).length ≤ l.length) → FI L ls (i + 1) (ints (bits i L.length)) true := fun hk => by
        refine .inr ⟨rfl, i, by omega, rfl, hne, fun j hj he => ?_⟩
        rw [ints_len]
        by_cases hji : j = i
        · subst hji; exact Nat.le_refl _
        · rcases h with ⟨_, h2⟩ | ⟨h1, k, h2, h3, h4, h5⟩
          · exact absurd he (h2 j (by omega))
          · have := h5 j (by omega) he
            rcases hk with hk | hk
            · rw [hk] at h1; cases h1
            · omega
      have keep : f = true → l.length ≤ (bits i L.length).length → FI L ls (i + 1) l f := fun hf hk => by
        rcases h with ⟨h1, _⟩ | ⟨h1, k, h2, h3, h4, h5⟩
        · rw [hf] at h1; cases h1
        · refine .inr ⟨h1, k, by omega, h3, h4, fun j hj he => ?_⟩
          by_cases hji : j = i
          · subst hji; exact hk
          · exact h5 j (by omega) he
      cases hb2 : (!f || decide (((ints (bits i L.length)).length : Int) < (l.length : Int)) || (((ints (bits i L.length)).length : Int) == (l.length : Int) && decide (r < 0)))
      · simp only [cond_false]
        simp only [Bool.or_eq_false_iff, decide_eq_false_iff_not, Bool.not_eq_false', ints_len] at hb2
        exact ih (i + 1) N l f (by omega) (by omega) (keep hb2.1.1 (by omega))
      · simp only [cond_true]
        simp only [Bool.or_eq_true, Bool.and_eq_true, decide_eq_true_eq, Bool.not_eq_true', beq_iff_eq, ints_len] at hb2
        refine ih (i + 1) N _ true (by omega) (by omega) (upd ?_)
        rcases hb2 with (g | g) | ⟨g, _⟩
        · exact .inl g
        · exact .inr (by omega)
        · exact .inr (by omega)
    · have hb : (lft (lets L (bits i L.length)) ls != []) = true := by simpa using hne
      rw [hb]
      simp only [cond_true]
      refine ih (i + 1) N l f (by omega) (by omega) ?_
      rcases h with ⟨h1, h2⟩ | ⟨h1, k, h2, h3, h4, h5⟩
      · refine .inl ⟨h1, fun j hj => ?_⟩
        by_cases hji : j = i
        · subst hji; exact hne
        · exact h2 j (by omega)
      · refine .inr ⟨h1, k, by omega, h3, h4, fun j hj he => ?_⟩
        by_cases hji : j = i
        · subst hji; exact absurd he hne
        · exact h5 j (by omega) he
end Go.Proofs.Ytimcachjcocjmaa
