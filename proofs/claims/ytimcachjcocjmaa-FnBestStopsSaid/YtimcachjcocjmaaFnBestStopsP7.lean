/-
  Plain lemmas on these functions. No conditions but those that each states.
-/
import Derived.Test.YtimcachjcocjmaaFnBestStopsP6
namespace Go.Proofs.Ytimcachjcocjmaa
set_option linter.unusedVariables false
set_option linter.unusedSimpArgs false
/-! The choices, the best of them, and the law. -/
def prs2 (m : Int) (x : Nat) (y n : Nat) : List (List Int) := if m = 2 then (List.range' y n).map (fun (t : Nat) => [(x : Int), (t : Int)]) else []
theorem prs2_len (m : Int) (x y n : Nat) : (prs2 m x y n).length ≤ n := by unfold prs2; split <;> simp
theorem bs_l2 (kj : List (List Int) → Option (List Int × Int × Int)) (m : Int) (x : Nat) : ∀ (n y N : Nat) (l : List (List Int)), y + n = 31 → n < N → l.length + n ≤ 5000 → i_BestStops_l2 kj m (x : Int) N l (y : Int) = kj (l ++ prs2 m x y n) := by
  intro n
  induction n with
  | zero =>
    intro y N l hy hN hl
    obtain ⟨N, rfl⟩ := pos_fuel hN
    have hz : ¬ (y : Int) ≤ 30 := by omega
    simp only [i_BestStops_l2, hz, decide_false, andO_some, Bool.and_false, Option.bind_some, cond_false]
    simp [prs2]
  | succ n ih =>
    intro y N l hy hN hl
    obtain ⟨N, rfl⟩ := pos_fuel hN
    have hz : (y : Int) ≤ 30 := by omega
    simp only [i_BestStops_l2, hz, decide_true, andO_some, Bool.and_true, Option.bind_some]
    by_cases hm : m = 2
    · subst hm
      have hb : ((2 : Int) == 2) = true := rfl
      simp only [hb, cond_true]
      rw [app_some _ _ (by unfold LIM; simp; omega), Option.bind_some, w64_nat y (by omega), ih (y + 1) N _ (by omega) (by omega) (by simp; omega)]
      refine congrArg kj ?_
      simp [prs2, List.range'_succ]
    · have hb : (m == 2) = false := by rw [beq_eq_false_iff_ne]; exact hm
      simp only [hb, cond_false]
      simp [prs2, hm]
def chs (m : Int) : Nat → Nat → List (List Int)
  | _, 0 => []
  | x, n + 1 => (if m = 1 then [[(x : Int)]] else []) ++ prs2 m x (x + 1) (30 - x) ++ chs m (x + 1) n
theorem bs_l1 (kj : List (List Int) → Option (List Int × Int × Int)) (m : Int) : ∀ (n x N : Nat) (l : List (List Int)), x + n = 31 → n + 100 < N → l.length + 40 * n ≤ 3000 → i_BestStops_l1 kj m N l (x : Int) = kj (l ++ chs m x n) := by
  intro n
  induction n with
  | zero =>
    intro x N l hx hN hl
    obtain ⟨N, rfl⟩ := pos_fuel (show 0 < N by omega)
    have hz : ¬ (x : Int) ≤ 30 := by omega
    simp only [i_BestStops_l1, hz, decide_false, cond_false, chs, List.append_nil]
  | succ n ih =>
    intro x N l hx hN hl
    obtain ⟨N, rfl⟩ := pos_fuel (show 0 < N by omega)
    have hz : (x : Int) ≤ 30 := by omega
    have hp := prs2_len m x (x + 1) (30 - x)
    simp only [i_BestStops_l1, hz, decide_true, cond_true, withK_eq, w64_nat x (show x < 9223372036854775807 by omega)]
    by_cases hm : m = 1
    · subst hm
      have hb : ((1 : Int) == 1) = true := rfl
      simp only [hb, cond_true]
      rw [app_some _ _ (by unfold LIM; simp; omega), Option.bind_some, bs_l2 _ 1 x (30 - x) (x + 1) N _ (by omega) (by omega) (by simp; omega), ih (x + 1) N _ (by omega) (by omega) (by simp; omega)]
      refine congrArg kj ?_
      simp [chs]
    · have hb : (m == 1) = false := by rw [beq_eq_false_iff_ne]; exact hm
      simp only [hb, cond_false]
      rw [bs_l2 _ m x (30 - x) (x + 1) N _ (by omega) (by omega) (by omega), ih (x + 1) N _ (by omega) (by omega) (by simp; omega)]
      refine congrArg kj ?_
      simp [chs, hm]
/-- a choice of so many stops -/
def Ch (m : Int) (c : List Int) : Prop := (m = 0 ∧ c = []) ∨ (m = 1 ∧ ∃ x : Nat, 1 ≤ x ∧ x ≤ 30 ∧ c = [(x : Int)]) ∨ (m = 2 ∧ ∃ x y : Nat, 1 ≤ x ∧ x < y ∧ y ≤ 30 ∧ c = [(x : Int), (y : Int)])
theorem chs_mem (m : Int) (hm0 : m ≠ 0) (c : List Int) : ∀ (n x : Nat), x + n = 31 → 1 ≤ x → (c ∈ chs m x n ↔ (m = 1 ∧ ∃ s : Nat, x ≤ s ∧ s ≤ 30 ∧ c = [(s : Int)]) ∨ (m = 2 ∧ ∃ s y : Nat, x ≤ s ∧ s < y ∧ y ≤ 30 ∧ c = [(s : Int), (y : Int)])) := by
  intro n
  induction n with
  | zero =>
    intro x hx h1
    simp only [chs, List.not_mem_nil, false_iff]
    rintro (⟨_, s, h2, h3, _⟩ | ⟨_, s, y, h2, h3, h4, _⟩) <;> omega
  | succ n ih =>
    intro x hx h1
    simp only [chs, List.mem_append, ih (x + 1) (by omega) (by omega)]
    constructor
    · rintro ((h | h) | h)
      · split at h
        · rename_i e
          exact .inl ⟨e, x, Nat.le_refl _, by omega, List.mem_singleton.1 h⟩
        · cases h
      · unfold prs2 at h
        split at h
        · rename_i e
          obtain ⟨t, ht, rfl⟩ := List.mem_map.1 h
          rw [List.mem_range'_1] at ht
          exact .inr ⟨e, x, t, Nat.le_refl _, by omega, by omega, rfl⟩
        · cases h
      · rcases h with ⟨e, s, h2, h3, h4⟩ | ⟨e, s, y, h2, h3, h4, h5⟩
        · exact .inl ⟨e, s, by omega, h3, h4⟩
        · exact .inr ⟨e, s, y, by omega, h3, h4, h5⟩
    · rintro (⟨e, s, h2, h3, h4⟩ | ⟨e, s, y, h2, h3, h4, h5⟩)
      · by_cases hs : s = x
        · subst hs
          exact .inl (.inl (by rw [if_pos e, h4]; simp))
        · exact .inr (.inl ⟨e, s, by omega, h3, h4⟩)
      · by_cases hs : s = x
        · subst hs
          refine .inl (.inr ?_)
          unfold prs2
          rw [if_pos e, h5]
          exact List.mem_map.2 ⟨y, by rw [List.mem_range'_1]; omega, rfl⟩
        · exact .inr (.inr ⟨e, s, y, by omega, h3, h4, h5⟩)
theorem ch_vs {m : Int} {c : List Int} (h : Ch m c) : VS c ∧ (∀ i, ∀ h : i + 1 < c.length, c[i] < c[i + 1]) ∧ (c.length : Int) = m := by
  rcases h with ⟨rfl, rfl⟩ | ⟨rfl, x, h1, h2, rfl⟩ | ⟨rfl, x, y, h1, h2, h3, rfl⟩
  · exact ⟨⟨by simp, fun i h => by simp at h⟩, fun i h => by simp at h, rfl⟩
  · refine ⟨⟨by simp, fun i h => ?_⟩, fun i h => by simp at h, rfl⟩
    obtain rfl : i = 0 := by simp at h; omega
    exact ⟨by show (1 : Int) ≤ x; omega, by show (x : Int) ≤ 30; omega⟩
  · refine ⟨⟨by simp, fun i h => ?_⟩, fun i h => ?_, rfl⟩
    · have : i = 0 ∨ i = 1 := by simp at h; omega
      rcases this with rfl | rfl
      · exact ⟨by show (1 : Int) ≤ x; omega, by show (x : Int) ≤ 30; omega⟩
      · exact ⟨by show (1 : Int) ≤ y; omega, by show (y : Int) ≤ 30; omega⟩
    · obtain rfl : i = 0 := by simp at h; omega
      show (x : Int) < y; omega
/-- the best so far -/
def Best (a b : Str) (L : List (List Int)) (i : Nat) (s : List Int) (v : Int) : Prop := (i = 0 ∧ v = -1) ∨ (s ∈ L ∧ ∃ w : Nat, v = w ∧ Mv a b s w ∧ ∀ (j : Nat) (c : List Int) (u : Nat), j < i → L[j]? = some c → Mv a b c u → w ≤ u)
theorem bs_l3 (kj : List Int → Int → Option (List Int × Int × Int)) (a b : Str) (L : List (List Int)) (hL : L.length ≤ 5000) (hm : ∀ c ∈ L, ∃ v, Mv a b c v) : ∀ (n i N : Nat) (s : List Int) (v : Int), i + n = L.length → n + 800 < N → Best a b L i s v → ∃ s' v', Best a b L L.length s' v' ∧ i_BestStops_l3 kj [a, b] L N s v (i : Int) = kj s' v' := by
  intro n
  induction n with
  | zero =>
    intro i N s v hi hN hB
    obtain ⟨N, rfl⟩ := pos_fuel (show 0 < N by omega)
    have hz : ¬ (i : Int) < (L.length : Int) := by omega
    simp only [i_BestStops_l3, hz, decide_false, cond_false]
    have : i = L.length := by omega
    exact ⟨s, v, this ▸ hB, rfl⟩
  | succ n ih =>
    intro i N s v hi hN hB
    obtain ⟨N, rfl⟩ := pos_fuel (show 0 < N by omega)
    have hz : (i : Int) < (L.length : Int) := by omega
    have hlt : i < L.length := by omega
    obtain ⟨u, hu⟩ := hm _ (List.getElem_mem hlt)
    simp only [i_BestStops_l3, hz, decide_true, cond_true, withK_eq]
    rw [idx_lt L i hlt, Option.bind_some, hu.2.2 N (by omega), Option.bind_some, w64_nat i (by omega)]
    simp only [orO_some, Option.bind_some]
    have hself : ∀ c, L[i]? = some c → c = L[i] := fun c hc => by rw [List.getElem?_eq_getElem hlt] at hc; exact (Option.some.inj hc).symm
    cases hb : (decide (v < 0) || decide ((u : Int) < v))
    · simp only [cond_false]
      refine ih (i + 1) N s v (by omega) (by omega) ?_
      simp only [Bool.or_eq_false_iff, decide_eq_false_iff_not] at hb
      rcases hB with ⟨_, e⟩ | ⟨h1, w, rfl, h2, h3⟩
      · omega
      · refine .inr ⟨h1, w, rfl, h2, fun j c x hj hc hx => ?_⟩
        by_cases hji : j = i
        · subst hji
          have := hself c hc
          subst this
          have := hx.uniq hu
          omega
        · exact h3 j c x (by omega) hc hx
    · simp only [cond_true]
      refine ih (i + 1) N L[i] (u : Int) (by omega) (by omega) (.inr ⟨List.getElem_mem hlt, u, rfl, hu, fun j c x hj hc hx => ?_⟩)
      by_cases hji : j = i
      · subst hji
        have := hself c hc
        subst this
        have := hx.uniq hu
        omega
      · simp only [Bool.or_eq_true, decide_eq_true_eq] at hb
        rcases hB with ⟨h0, _⟩ | ⟨h1, w, rfl, h2, h3⟩
        · omega
        · have := h3 j c x (by omega) hc hx
          omega
theorem best_ok (N : Nat) (hN : 6000 < N) (a b : Str) (ha : RowD a 3) (hb : RowD b 3) (m : Int) (h0 : 0 ≤ m) (h2 : m ≤ 2) : ∃ (s : List Int) (v : Nat), i_BestStops N [a, b] m = some (s, (v : Int), 0) ∧ Ch m s ∧ Mv a b s v ∧ ∀ c u, Ch m c → Mv a b c u → v ≤ u := by
  have main : ∀ L : List (List Int), L.length ≤ 5000 → (∀ c, c ∈ L ↔ Ch m c) → L ≠ [] → ∃ (s : List Int) (v : Nat), i_BestStops_l3 (fun (l67 : List Int) (x69 : Int) => some (l67, x69, 0)) [a, b] L N [] (-1) 0 = some (s, (v : Int), 0) ∧ Ch m s ∧ Mv a b s v ∧ ∀ c u, Ch m c → Mv a b c u → v ≤ u := fun L hl hc hne => by
    obtain ⟨s', v', hB, e⟩ := bs_l3 (fun (l67 : List Int) (x69 : Int) => some (l67, x69, 0)) a b L hl (fun c h => mv_ex c (ch_vs ((hc c).1 h)).1 a b ha hb) L.length 0 N [] (-1) (by omega) (by omega) (.inl ⟨rfl, rfl⟩)
    rcases hB with ⟨h1, _⟩ | ⟨h1, w, rfl, h3, h4⟩
    · exact absurd (List.eq_nil_of_length_eq_zero h1) hne
    · refine ⟨s', w, e, (hc _).1 h1, h3, fun c u hcc hu => ?_⟩
      obtain ⟨j, hj, hjc⟩ := List.getElem_of_mem ((hc c).2 hcc)
      exact h4 j c u hj (by rw [List.getElem?_eq_getElem hj, hjc]) hu
  have hlen : ∀ (n x : Nat), x ≤ 31 → (chs m x n).length ≤ 32 * n := by
    intro n
    induction n with
    | zero => intro x _; simp [chs]
    | succ n ih =>
      intro x hx
      have h1 := prs2_len m x (x + 1) (30 - x)
      simp only [chs, List.length_append]
      have h3 : (if m = 1 then [[(x : Int)]] else ([] : List (List Int))).length ≤ 1 := by split <;> simp
      by_cases hx2 : x + 1 ≤ 31
      · have h4 := ih (x + 1) hx2
        omega
      · have h4 : ∀ (n y : Nat), 31 ≤ y → (chs m y n).length ≤ n := by
          intro n
          induction n with
          | zero => intro y _; simp [chs]
          | succ n ih =>
            intro y hy
            have h1 := prs2_len m y (y + 1) (30 - y)
            have h5 : (if m = 1 then [[(y : Int)]] else ([] : List (List Int))).length ≤ 1 := by split <;> simp
            have h6 := ih (y + 1) (by omega)
            simp only [chs, List.length_append]
            omega
        have := h4 n (x + 1) (by omega)
        omega
  unfold i_BestStops i_between
  rw [rowsCode_ok N a b ha.2.1 hb.2.1 (by omega)]
  have hb1 : (decide (m ≥ 0) && decide (m ≤ 2)) = true := by simp [h0, h2]
  simp only [Option.bind_some, bne_self_eq_false, cond_false, andO_some, hb1, Bool.not_true, withK_eq]
  rw [show (1 : Int) = ((1 : Nat) : Int) from rfl, bs_l1 _ m 30 1 N [] (by omega) (by omega) (by simp)]
  simp only [List.nil_append]
  by_cases hm0 : m = 0
  · subst hm0
    have hbb : ((0 : Int) == 0) = true := rfl
    simp only [hbb, cond_true]
    refine main [[]] (by simp) (fun c => ?_) (by simp)
    unfold Ch
    simp
  · have hbb : (m == 0) = false := by rw [beq_eq_false_iff_ne]; exact hm0
    simp only [hbb, cond_false]
    have hl := hlen 30 1 (by omega)
    have hmem := fun c => chs_mem m hm0 c 30 1 (by omega) (Nat.le_refl _)
    refine main _ (by omega) (fun c => ?_) ?_
    · rw [hmem]
      unfold Ch
      constructor
      · rintro (⟨e, s, g⟩ | ⟨e, s, y, g⟩)
        · exact .inr (.inl ⟨e, s, g⟩)
        · exact .inr (.inr ⟨e, s, y, g⟩)
      · rintro (⟨e, _⟩ | ⟨e, s, g⟩ | ⟨e, s, y, g⟩)
        · exact absurd e hm0
        · exact .inl ⟨e, s, g⟩
        · exact .inr ⟨e, s, y, g⟩
    · intro hnil
      have hm12 : m = 1 ∨ m = 2 := by omega
      rcases hm12 with rfl | rfl
      · have : [((1 : Nat) : Int)] ∈ chs 1 1 30 := (hmem _).2 (.inl ⟨rfl, 1, by omega, by omega, rfl⟩)
        rw [hnil] at this; cases this
      · have : [((1 : Nat) : Int), ((2 : Nat) : Int)] ∈ chs 2 1 30 := (hmem _).2 (.inr ⟨rfl, 1, 2, by omega, by omega, by omega, rfl⟩)
        rw [hnil] at this; cases this
theorem s_rises_l1 (l : List Int) (kj : Option Bool) (hk : kj = some true) (hl : l.length ≤ 100) (hv : ∀ i, ∀ h : i < l.length, 1 ≤ l[i] ∧ l[i] ≤ 30) (hr : ∀ i, ∀ h : i + 1 < l.length, l[i] < l[i + 1]) : ∀ (n i N : Nat), i + n = l.length → n < N → s_l00Rises_l1 kj l 1 30 N (i : Int) = some true := by
  intro n
  induction n with
  | zero =>
    intro i N hi hN
    obtain ⟨N, rfl⟩ := pos_fuel hN
    have hz : ¬ (i : Int) < (l.length : Int) := by omega
    simp only [s_l00Rises_l1, hz, decide_false, cond_false, hk]
  | succ n ih =>
    intro i N hi hN
    obtain ⟨N, rfl⟩ := pos_fuel hN
    have hz : (i : Int) < (l.length : Int) := by omega
    have hlt : i < l.length := by omega
    obtain ⟨v1, v2⟩ := hv i hlt
    have hb : (decide (l[i] ≥ 1) && decide (l[i] ≤ 30)) = true := by simp [v1, v2]
    simp only [s_l00Rises_l1, hz, decide_true, cond_true, s_l00In]
    rw [idx_lt l i hlt]
    simp only [Option.bind_some, andO_some, hb, Bool.not_true, orO_false]
    have hA : andO (decide ((i : Int) > 0)) ((idx l (w64 ((i : Int) - 1))).bind fun e23 => some (decide (e23 ≥ l[i]))) = some false := by
      by_cases h0 : i = 0
      · subst h0; rfl
      · have hp : decide ((i : Int) > 0) = true := decide_eq_true (by omega)
        have e : w64 ((i : Int) - 1) = ((i - 1 : Nat) : Int) := by rw [w64_id (by omega) (by omega)]; omega
        rw [hp, e, idx_lt l (i - 1) (by omega)]
        have h3 := hr (i - 1) (by omega)
        have h4 : l[i - 1 + 1]'(by omega) = l[i] := by congr 1; omega
        rw [h4] at h3
        simp only [andO_true, Option.bind_some]
        refine congrArg some (decide_eq_false ?_)
        omega
    rw [hA]
    simp only [Option.bind_some, cond_false]
    rw [w64_nat i (by omega)]
    exact ih (i + 1) N (by omega) (by omega)
theorem s_valid_ok (N : Nat) (hN : 200 < N) {m : Int} {c : List Int} (h : Ch m c) : s_ValidStops N c = some true := by
  obtain ⟨h1, h2, _⟩ := ch_vs h
  have h6 := h1.1
  unfold s_ValidStops s_l11Ok s_l00Rises
  simp only [withK_eq]
  have e := s_rises_l1 c (some true) rfl (by omega) h1.2 h2 c.length 0 N (by omega) (by omega)
  rw [show ((0 : Nat) : Int) = 0 from rfl] at e
  have hd : decide ((c.length : Int) ≤ 6) = true := decide_eq_true (by omega)
  rw [e, hd]
  rfl
theorem page_ok (N : Nat) (hN : 800 < N) {a b : Str} (ha : RowD a 3) (hb : RowD b 3) {m : Int} {c : List Int} (h : Ch m c) {v : Nat} (hv : Mv a b c v) : i_PageMoves N c [a, b] = some ((v : Int), 0) := by
  obtain ⟨h1, h2, _⟩ := ch_vs h
  unfold i_PageMoves
  simp only [validStops_ok N c h1 h2 (by omega), Option.bind_some, Bool.not_true, cond_false, rowsCode_ok N a b ha.2.1 hb.2.1 (by omega), bne_self_eq_false, hv.2.2 N (by omega)]
theorem law_FnBestStops (code more : List UInt8) (_ : wfL wfByte code) (_ : wfL wfByte more) : ∃ N, w_FnBestStops N code more = some true := by
  refine ⟨7000, ?_⟩
  obtain ⟨N, hN⟩ : ∃ N, N = 7000 := ⟨_, rfl⟩
  rw [← hN]
  unfold w_FnBestStops
  have hw : ∃ q, w_a2Long code more = some q := by
    unfold w_a2Long
    simp only [orO_some, Option.bind_some]
    exact ⟨_, rfl⟩
  obtain ⟨q, hq⟩ := hw
  rw [hq, Option.bind_some]
  cases q
  case true => rfl
  rw [cond_false]
  obtain ⟨a, ea, ha⟩ := A2Row_ok N code (by omega)
  obtain ⟨b, eb, hb⟩ := A2Row_ok N more (by omega)
  rw [ea, Option.bind_some, eb, Option.bind_some]
  simp only [withK_eq]
  obtain ⟨N, rfl⟩ : ∃ M, N = M + 4 := ⟨N - 4, by omega⟩
  obtain ⟨s0, v0, e0, c0, m0, b0⟩ := best_ok (N + 3) (by omega) a b ha hb 0 (by omega) (by omega)
  obtain ⟨s1, v1, e1, c1, m1, b1⟩ := best_ok (N + 2) (by omega) a b ha hb 1 (by omega) (by omega)
  obtain ⟨s2, v2, e2, c2, m2, b2⟩ := best_ok (N + 1) (by omega) a b ha hb 2 (by omega) (by omega)
  have le1 : v1 ≤ v0 := by
    have hs0 : s0 = [] := by
      rcases c0 with ⟨_, h⟩ | ⟨h, _⟩ | ⟨h, _⟩
      · exact h
      · omega
      · omega
    subst hs0
    have hc : Ch 1 [((1 : Nat) : Int)] := .inr (.inl ⟨rfl, 1, by omega, by omega, rfl⟩)
    obtain ⟨w, hw⟩ := mv_ex _ (ch_vs hc).1 a b ha hb
    have h1 := mv_cmp (better_one _) ha hb m0 hw
    have h2 := b1 _ w hc hw
    omega
  have le2 : v2 ≤ v1 := by
    rcases c1 with ⟨h, _⟩ | ⟨_, x, h1, h2, rfl⟩ | ⟨h, _⟩
    · omega
    · by_cases hx : x = 30
      · subst hx
        have hc : Ch 2 [((29 : Nat) : Int), ((30 : Nat) : Int)] := .inr (.inr ⟨rfl, 29, 30, by omega, by omega, by omega, rfl⟩)
        obtain ⟨w, hw⟩ := mv_ex _ (ch_vs hc).1 a b ha hb
        have h3 := mv_cmp better_last ha hb m1 hw
        have h4 := b2 _ w hc hw
        omega
      · have hc : Ch 2 [(x : Int), ((30 : Nat) : Int)] := .inr (.inr ⟨rfl, x, 30, h1, by omega, by omega, rfl⟩)
        obtain ⟨w, hw⟩ := mv_ex _ (ch_vs hc).1 a b ha hb
        have h3 := mv_cmp (better_two _) ha hb m1 hw
        have h4 := b2 _ w hc hw
        omega
    · omega
  have l0 := (ch_vs c0).2.2
  have l1 := (ch_vs c1).2.2
  have l2 := (ch_vs c2).2.2
  have t0 : decide ((0 : Int) ≤ 2) = true := rfl
  have t1 : decide ((1 : Int) ≤ 2) = true := rfl
  have t2 : decide ((2 : Int) ≤ 2) = true := rfl
  have t3 : decide ((3 : Int) ≤ 2) = false := rfl
  have w0 : w64 ((0 : Int) + 1) = 1 := rfl
  have w1 : w64 ((1 : Int) + 1) = 2 := rfl
  have w2 : w64 ((2 : Int) + 1) = 3 := rfl
  have g0 : decide ((v0 : Int) > -1) = true := decide_eq_true (by omega)
  have g1 : decide ((v1 : Int) > (v0 : Int)) = false := decide_eq_false (by omega)
  have g2 : decide ((v2 : Int) > (v1 : Int)) = false := decide_eq_false (by omega)
  have gm : decide ((-1 : Int) ≥ 0) = false := rfl
  simp only [w_FnBestStops_l1, t0, t1, t2, t3, cond_true, cond_false, e0, Option.bind_some, page_ok (N + 3) (by omega) ha hb c0 m0, s_valid_ok (N + 3) (by omega) c0, l0, bne_self_eq_false, orO_some, andO_some, Bool.or_self, Bool.not_true, gm, Bool.false_and, w0, e1, page_ok (N + 2) (by omega) ha hb c1 m1, s_valid_ok (N + 2) (by omega) c1, l1, g1, Bool.and_false, w1, e2, page_ok (N + 1) (by omega) ha hb c2 m2, s_valid_ok (N + 1) (by omega) c2, l2, g2, w2]
end Go.Proofs.Ytimcachjcocjmaa
