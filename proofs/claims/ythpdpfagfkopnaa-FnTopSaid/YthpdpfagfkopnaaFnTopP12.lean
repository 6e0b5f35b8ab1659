/-
  Plain lemmas on these functions. No conditions but those that each states.
-/
import Derived.Test.YthpdpfagfkopnaaFnTopP11
namespace Go.Proofs.Ythpdpfagfkopnaa
set_option linter.unusedVariables false
set_option linter.unusedSimpArgs false
/-! The best stops for one row. -/
theorem rowsCode1_ok (N : Nat) (a : Str) (ha : Row a) (hN : 200 ≤ N) : i_rowsCode N [a] = some 0 := by
  obtain ⟨N, rfl⟩ : ∃ M, N = M + 1 + 1 := ⟨N - 2, by omega⟩
  have e1 := isRow_ok (N + 1) a ha (by omega)
  have i0 : idx [a] 0 = some a := rfl
  have w1 : w64 (0 + 1) = 1 := rfl
  have d0 : decide ((0 : Int) < (([a] : List Str).length : Int)) = true := rfl
  have d1 : decide ((1 : Int) < (([a] : List Str).length : Int)) = false := rfl
  have d3 : decide ((([a] : List Str).length : Int) > 12) = false := rfl
  unfold i_rowsCode
  simp only [d3, cond_false, withK_eq, i_rowsCode_l1, d0, cond_true, i0, Option.bind_some, e1, Bool.not_true, w1, d1]
def Mv1 (a : Str) (stops : List Int) (v : Nat) : Prop := v ≤ 1000 ∧ (∀ N : Nat, 700 ≤ N → i_pageMoves N stops [a] = some (v : Int))
theorem Mv1.uniq {a : Str} {stops : List Int} {v w : Nat} (h1 : Mv1 a stops v) (h2 : Mv1 a stops w) : v = w := by
  have e1 := h1.2 700 (Nat.le_refl _)
  have e2 := h2.2 700 (Nat.le_refl _)
  rw [e1] at e2
  have := Option.some.inj e2
  omega
theorem pm1 (stops : List Int) (a p : Str) (v : Nat) (hv : v ≤ 1000) (h : ∀ N : Nat, 600 ≤ N → i_rowPlan N stops a = some (p, (v : Int))) : Mv1 a stops v := by
  refine ⟨hv, fun N hN => ?_⟩
  obtain ⟨M, rfl⟩ : ∃ M, N = M + 1 + 1 := ⟨N - 2, by omega⟩
  have i0 : idx [a] 0 = some a := rfl
  have w1 : w64 (0 + 1) = 1 := rfl
  have d0 : decide ((0 : Int) < (([a] : List Str).length : Int)) = true := rfl
  have d1 : decide ((1 : Int) < (([a] : List Str).length : Int)) = false := rfl
  have s1 : w64 (0 + (v : Int)) = (v : Int) := by rw [w64_id (by omega) (by omega)]; omega
  unfold i_pageMoves
  simp only [withK_eq, i_pageMoves_l1, d0, cond_true, i0, h (M + 1) (by omega), Option.bind_some, s1, w1, d1, cond_false]
theorem mv1_ex (stops : List Int) (hs : VS stops) (a : Str) (ha : RowD a 3) : ∃ v, Mv1 a stops v := by
  obtain ⟨la, ea, sa, na, ta⟩ := rowPlan_ok stops hs a ha.2.1
  have h3 := ha.2.2
  exact ⟨total la, pm1 stops a (flat la) (total la) (by omega) fun N hN => ea N (by omega)⟩
def Best1 (a : Str) (L : List (List Int)) (i : Nat) (s : List Int) (v : Int) : Prop := (i = 0 ∧ v = -1) ∨ (s ∈ L ∧ ∃ w : Nat, v = w ∧ Mv1 a s w ∧ ∀ (j : Nat) (c : List Int) (u : Nat), j < i → L[j]? = some c → Mv1 a c u → w ≤ u)
theorem bs1_l3 (kj : List Int → Int → Option (List Int × Int × Int)) (a : Str) (L : List (List Int)) (hL : L.length ≤ 5000) (hm : ∀ c ∈ L, ∃ v, Mv1 a c v) : ∀ (n i N : Nat) (s : List Int) (v : Int), i + n = L.length → n + 800 < N → Best1 a L i s v → ∃ s' v', Best1 a L L.length s' v' ∧ i_BestStops_l3 kj [a] L N s v (i : Int) = kj s' v' := by
  intro n
  induction n with
  | zero =>
    intro i N s v hi hN hB
    obtain ⟨N, rfl⟩ := pos_fuel (show 0 < N by omega)
    have hz : ¬ (i : Int) < (L.length : Int) := by omega
    simp only [i_BestStops_l3, hz, decide_false, cond_false]
    have : i = L.length := by omega
    exact ⟨s, v, this ▸ hB, rfl⟩
  | succ n ih =>
    intro i N s v hi hN hB
    obtain ⟨N, rfl⟩ := pos_fuel (show 0 < N by omega)
    have hz : (i : Int) < (L.length : Int) := by omega
    have hlt : i < L.length := by omega
    obtain ⟨u, hu⟩ := hm _ (List.getElem_mem hlt)
    simp only [i_BestStops_l3, hz, decide_true, cond_true, withK_eq]
    rw [idx_lt L i hlt, Option.bind_some, hu.2 N (by omega), Option.bind_some, w64_nat i (by omega)]
    simp only [orO_some, Option.bind_some]
    have hself : ∀ c, L[i]? = some c → c = L[i] := fun c hc => by rw [List.getElem?_eq_getElem hlt] at hc; exact (Option.some.inj hc).symm
    cases hb : (decide (v < 0) || decide ((u : Int) < v))
    · simp only [cond_false]
      refine ih (i + 1) N s v (by omega) (by omega) ?_
      simp only [Bool.or_eq_false_iff, decide_eq_false_iff_not] at hb
      rcases hB with ⟨_, e⟩ | ⟨h1, w, rfl, h2, h3⟩
      · omega
      · refine .inr ⟨h1, w, rfl, h2, fun j c x hj hc hx => ?_⟩
        by_cases hji : j = i
        · subst hji
          have := hself c hc
          subst this
          have := hx.uniq hu
          omega
        · exact h3 j c x (by omega) hc hx
    · simp only [cond_true]
      refine ih (i + 1) N L[i] (u : Int) (by omega) (by omega) (.inr ⟨List.getElem_mem hlt, u, rfl, hu, fun j c x hj hc hx => ?_⟩)
      by_cases hji : j = i
      · subst hji
        have := hself c hc
        subst this
        have := hx.uniq hu
        omega
      · simp only [Bool.or_eq_true, decide_eq_true_eq] at hb
        rcases hB with ⟨h0, _⟩ | ⟨h1, w, rfl, h2, h3⟩
        · omega
        · have := h3 j c x (by omega) hc hx
          omega
theorem best1_ok (N : Nat) (hN : 6000 < N) (a : Str) (ha : RowD a 3) (m : Int) (h0 : 0 ≤ m) (h2 : m ≤ 2) : ∃ (s : List Int) (v : Nat), i_BestStops N [a] m = some (s, (v : Int), 0) ∧ Ch m s ∧ Mv1 a s v ∧ ∀ c u, Ch m c → Mv1 a c u → v ≤ u := by
  have main : ∀ L : List (List Int), L.length ≤ 5000 → (∀ c, c ∈ L ↔ Ch m c) → L ≠ [] → ∃ (s : List Int) (v : Nat), i_BestStops_l3 (fun (l67 : List Int) (x69 : Int) => some (l67, x69, 0)) [a] L N [] (-1) 0 = some (s, (v : Int), 0) ∧ Ch m s ∧ Mv1 a s v ∧ ∀ c u, Ch m c → Mv1 a c u → v ≤ u := fun L hl hc hne => by
    obtain ⟨s', v', hB, e⟩ := bs1_l3 (fun (l67 : List Int) (x69 : Int) => some (l67, x69, 0)) a L hl (fun c h => mv1_ex c (ch_vs ((hc c).1 h)).1 a ha) L.length 0 N [] (-1) (by omega) (by omega) (.inl ⟨rfl, rfl⟩)
    rcases hB with ⟨h1, _⟩ | ⟨h1, w, rfl, h3, h4⟩
    · exact absurd (List.eq_nil_of_length_eq_zero h1) hne
    · refine ⟨s', w, e, (hc _).1 h1, h3, fun c u hcc hu => ?_⟩
      obtain ⟨j, hj, hjc⟩ := List.getElem_of_mem ((hc c).2 hcc)
      exact h4 j c u hj (by rw [List.getElem?_eq_getElem hj, hjc]) hu
  have hlen : ∀ (n x : Nat), x ≤ 31 → (chs m x n).length ≤ 32 * n := by
    intro n
    induction n with
    | zero => intro x _; simp [chs]
    | succ n ih =>
      intro x hx
      have h1 := prs2_len m x (x + 1) (30 - x)
      simp only [chs, List.length_append]
      have h3 : (if m = 1 then [[(x : Int)]] else ([] : List (List Int))).length ≤ 1 := by split <;> simp
      by_cases hx2 : x + 1 ≤ 31
      · have h4 := ih (x + 1) hx2
        omega
      · have h4 : ∀ (n y : Nat), 31 ≤ y → (chs m y n).length ≤ n := by
          intro n
          induction n with
          | zero => intro y _; simp [chs]
          | succ n ih =>
            intro y hy
            have h1 := prs2_len m y (y + 1) (30 - y)
            have h5 : (if m = 1 then [[(y : Int)]] else ([] : List (List Int))).length ≤ 1 := by split <;> simp
            have h6 := ih (y + 1) (by omega)
            simp only [chs, List.length_append]
            omega
        have := h4 n (x + 1) (by omega)
        omega
  unfold i_BestStops i_between
  rw [rowsCode1_ok N a ha.2.1 (by omega)]
  have hb1 : (decide (m ≥ 0) && decide (m ≤ 2)) = true := by simp [h0, h2]
  simp only [Option.bind_some, bne_self_eq_false, cond_false, andO_some, hb1, Bool.not_true, withK_eq]
  rw [show (1 : Int) = ((1 : Nat) : Int) from rfl, bs_l1 _ m 30 1 N [] (by omega) (by omega) (by simp)]
  simp only [List.nil_append]
  by_cases hm0 : m = 0
  · subst hm0
    have hbb : ((0 : Int) == 0) = true := rfl
    simp only [hbb, cond_true]
    refine main [[]] (by simp) (fun c => ?_) (by simp)
    unfold Ch
    simp
  · have hbb : (m == 0) = false := by rw [beq_eq_false_iff_ne]; exact hm0
    simp only [hbb, cond_false]
    have hl := hlen 30 1 (by omega)
    have hmem := fun c => chs_mem m hm0 c 30 1 (by omega) (Nat.le_refl _)
    refine main _ (by omega) (fun c => ?_) ?_
    · rw [hmem]
      unfold Ch
      constructor
      · rintro (⟨e, s, g⟩ | ⟨e, s, y, g⟩)
        · exact .inr (.inl ⟨e, s, g⟩)
        · exact .inr (.inr ⟨e, s, y, g⟩)
      · rintro (⟨e, _⟩ | ⟨e, s, g⟩ | ⟨e, s, y, g⟩)
        · exact absurd e hm0
        · exact .inl ⟨e, s, g⟩
        · exact .inr ⟨e, s, y, g⟩
    · intro hnil
      have hm12 : m = 1 ∨ m = 2 := by omega
      rcases hm12 with rfl | rfl
      · have : [((1 : Nat) : Int)] ∈ chs 1 1 30 := (hmem _).2 (.inl ⟨rfl, 1, by omega, by omega, rfl⟩)
        rw [hnil] at this; cases this
      · have : [((1 : Nat) : Int), ((2 : Nat) : Int)] ∈ chs 2 1 30 := (hmem _).2 (.inr ⟨rfl, 1, 2, by omega, by omega, by omega, rfl⟩)
        rw [hnil] at this; cases this
end Go.Proofs.Ythpdpfagfkopnaa
