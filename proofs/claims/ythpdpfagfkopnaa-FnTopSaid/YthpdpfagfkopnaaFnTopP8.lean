/-
  Plain lemmas on these functions. No conditions but those that each states.
-/
import Derived.Test.YthpdpfagfkopnaaFnTopP7
namespace Go.Proofs.Ythpdpfagfkopnaa
set_option linter.unusedVariables false
set_option linter.unusedSimpArgs false
/-! The choices, the best of them, and the law. -/
def prs2 (m : Int) (x : Nat) (y n : Nat) : List (List Int) := if m = 2 then (List.range' y n).map (fun (t : Nat) => [(x : Int), (t : Int)]) else []
theorem prs2_len (m : Int) (x y n : Nat) : (prs2 m x y n).length ≤ n := by unfold prs2; split <;> simp
theorem bs_l2 (kj : List (List Int) → Option (List Int × Int × Int)) (m : Int) (x : Nat) : ∀ (n y N : Nat) (l : List (List Int)), y + n = 31 → n < N → l.length + n ≤ 5000 → i_BestStops_l2 kj m (x : Int) N l (y : Int) = kj (l ++ prs2 m x y n) := by
  intro n
  induction n with
  | zero =>
    intro y N l hy hN hl
    obtain ⟨N, rfl⟩ := pos_fuel hN
    have hz : ¬ (y : Int) ≤ 30 := by omega
    simp only [i_BestStops_l2, hz, decide_false, andO_some, Bool.and_false, Option.bind_some, cond_false]
    simp [prs2]
  | succ n ih =>
    intro y N l hy hN hl
    obtain ⟨N, rfl⟩ := pos_fuel hN
    have hz : (y : Int) ≤ 30 := by omega
    simp only [i_BestStops_l2, hz, decide_true, andO_some, Bool.and_true, Option.bind_some]
    by_cases hm : m = 2
    · subst hm
      have hb : ((2 : Int) == 2) = true := rfl
      simp only [hb, cond_true]
      rw [app_some _ _ (by unfold LIM; simp; omega), Option.bind_some, w64_nat y (by omega), ih (y + 1) N _ (by omega) (by omega) (by simp; omega)]
      refine congrArg kj ?_
      simp [prs2, List.range'_succ]
    · have hb : (m == 2) = false := by rw [beq_eq_false_iff_ne]; exact hm
      simp only [hb, cond_false]
      simp [prs2, hm]
def chs (m : Int) : Nat → Nat → List (List Int)
  | _, 0 => []
  | x, n + 1 => (if m = 1 then [[(x : Int)]] else []) ++ prs2 m x (x + 1) (30 - x) ++ chs m (x + 1) n
theorem bs_l1 (kj : List (List Int) → Option (List Int × Int × Int)) (m : Int) : ∀ (n x N : Nat) (l : List (List Int)), x + n = 31 → n + 100 < N → l.length + 40 * n ≤ 3000 → i_BestStops_l1 kj m N l (x : Int) = kj (l ++ chs m x n) := by
  intro n
  induction n with
  | zero =>
    intro x N l hx hN hl
    obtain ⟨N, rfl⟩ := pos_fuel (show 0 < N by omega)
    have hz : ¬ (x : Int) ≤ 30 := by omega
    simp only [i_BestStops_l1, hz, decide_false, cond_false, chs, List.append_nil]
  | succ n ih =>
    intro x N l hx hN hl
    obtain ⟨N, rfl⟩ := pos_fuel (show 0 < N by omega)
    have hz : (x : Int) ≤ 30 := by omega
    have hp := prs2_len m x (x + 1) (30 - x)
    simp only [i_BestStops_l1, hz, decide_true, cond_true, withK_eq, w64_nat x (show x < 9223372036854775807 by omega)]
    by_cases hm : m = 1
    · subst hm
      have hb : ((1 : Int) == 1) = true := rfl
      simp only [hb, cond_true]
      rw [app_some _ _ (by unfold LIM; simp; omega), Option.bind_some, bs_l2 _ 1 x (30 - x) (x + 1) N _ (by omega) (by omega) (by simp; omega), ih (x + 1) N _ (by omega) (by omega) (by simp; omega)]
      refine congrArg kj ?_
      simp [chs]
    · have hb : (m == 1) = false := by rw [beq_eq_false_iff_ne]; exact hm
      simp only [hb, cond_false]
      rw [bs_l2 _ m x (30 - x) (x + 1) N _ (by omega) (by omega) (by omega), ih (x + 1) N _ (by omega) (by omega) (by simp; omega)]
      refine congrArg kj ?_
      simp [chs, hm]
/-- a choice of so many stops -/
def Ch (m : Int) (c : List Int) : Prop := (m = 0 ∧ c = []) ∨ (m = 1 ∧ ∃ x : Nat, 1 ≤ x ∧ x ≤ 30 ∧ c = [(x : Int)]) ∨ (m = 2 ∧ ∃ x y : Nat, 1 ≤ x ∧ x < y ∧ y ≤ 30 ∧ c = [(x : Int), (y : Int)])
theorem chs_mem (m : Int) (hm0 : m ≠ 0) (c : List Int) : ∀ (n x : Nat), x + n = 31 → 1 ≤ x → (c ∈ chs m x n ↔ (m = 1 ∧ ∃ s : Nat, x ≤ s ∧ s ≤ 30 ∧ c = [(s : Int)]) ∨ (m = 2 ∧ ∃ s y : Nat, x ≤ s ∧ s < y ∧ y ≤ 30 ∧ c = [(s : Int), (y : Int)])) := by
  intro n
  induction n with
  | zero =>
    intro x hx h1
    simp only [chs, List.not_mem_nil, false_iff]
    rintro (⟨_, s, h2, h3, _⟩ | ⟨_, s, y, h2, h3, h4, _⟩) <;> omega
  | succ n ih =>
    intro x hx h1
    simp only [chs, List.mem_append, ih (x + 1) (by omega) (by omega)]
    constructor
    · rintro ((h | h) | h)
      · split at h
        · rename_i e
          exact .inl ⟨e, x, Nat.le_refl _, by omega, List.mem_singleton.1 h⟩
        · cases h
      · unfold prs2 at h
        split at h
        · rename_i e
          obtain ⟨t, ht, rfl⟩ := List.mem_map.1 h
          rw [List.mem_range'_1] at ht
          exact .inr ⟨e, x, t, Nat.le_refl _, by omega, by omega, rfl⟩
        · cases h
      · rcases h with ⟨e, s, h2, h3, h4⟩ | ⟨e, s, y, h2, h3, h4, h5⟩
        · exact .inl ⟨e, s, by omega, h3, h4⟩
        · exact .inr ⟨e, s, y, by omega, h3, h4, h5⟩
    · rintro (⟨e, s, h2, h3, h4⟩ | ⟨e, s, y, h2, h3, h4, h5⟩)
      · by_cases hs : s = x
        · subst hs
          exact .inl (.inl (by rw [if_pos e, h4]; simp))
        · exact .inr (.inl ⟨e, s, by omega, h3, h4⟩)
      · by_cases hs : s = x
        · subst hs
          refine .inl (.inr ?_)
          unfold prs2
          rw [if_pos e, h5]
          exact List.mem_map.2 ⟨y, by rw [List.mem_range'_1]; omega, rfl⟩
        · exact .inr (.inr ⟨e, s, y, by omega, h3, h4, h5⟩)
theorem ch_vs {m : Int} {c : List Int} (h : Ch m c) : VS c ∧ (∀ i, ∀ h : i + 1 < c.length, c[i] < c[i + 1]) ∧ (c.length : Int) = m := by
  rcases h with ⟨rfl, rfl⟩ | ⟨rfl, x, h1, h2, rfl⟩ | ⟨rfl, x, y, h1, h2, h3, rfl⟩
  · exact ⟨⟨by simp, fun i h => by simp at h⟩, fun i h => by simp at h, rfl⟩
  · refine ⟨⟨by simp, fun i h => ?_⟩, fun i h => by simp at h, rfl⟩
    obtain rfl : i = 0 := by simp at h; omega
    exact ⟨by show (1 : Int) ≤ x; omega, by show (x : Int) ≤ 30; omega⟩
  · refine ⟨⟨by simp, fun i h => ?_⟩, fun i h => ?_, rfl⟩
    · have : i = 0 ∨ i = 1 := by simp at h; omega
      rcases this with rfl | rfl
      · exact ⟨by show (1 : Int) ≤ x; omega, by show (x : Int) ≤ 30; omega⟩
      · exact ⟨by show (1 : Int) ≤ y; omega, by show (y : Int) ≤ 30; omega⟩
    · obtain rfl : i = 0 := by simp at h; omega
      show (x : Int) < y; omega
/-- the best so far -/
def Best (a b : Str) (L : List (List Int)) (i : Nat) (s : List Int) (v : Int) : Prop := (i = 0 ∧ v = -1) ∨ (s ∈ L ∧ ∃ w : Nat, v = w ∧ Mv a b s w ∧ ∀ (j : Nat) (c : List Int) (u : Nat), j < i → L[j]? = some c → Mv a b c u → w ≤ u)
theorem bs_l3 (kj : List Int → Int → Option (List Int × Int × Int)) (a b : Str) (L : List (List Int)) (hL : L.length ≤ 5000) (hm : ∀ c ∈ L, ∃ v, Mv a b c v) : ∀ (n i N : Nat) (s : List Int) (v : Int), i + n = L.length → n + 800 < N → Best a b L i s v → ∃ s' v', Best a b L L.length s' v' ∧ i_BestStops_l3 kj [a, b] L N s v (i : Int) = kj s' v' := by
  intro n
  induction n with
  | zero =>
    intro i N s v hi hN hB
    obtain ⟨N, rfl⟩ := pos_fuel (show 0 < N by omega)
    have hz : ¬ (i : Int) < (L.length : Int) := by omega
    simp only [i_BestStops_l3, hz, decide_false, cond_false]
    have : i = L.length := by omega
    exact ⟨s, v, this ▸ hB, rfl⟩
  | succ n ih =>
    intro i N s v hi hN hB
    obtain ⟨N, rfl⟩ := pos_fuel (show 0 < N by omega)
    have hz : (i : Int) < (L.length : Int) := by omega
    have hlt : i < L.length := by omega
    obtain ⟨u, hu⟩ := hm _ (List.getElem_mem hlt)
    simp only [i_BestStops_l3, hz, decide_true, cond_true, withK_eq]
    rw [idx_lt L i hlt, Option.bind_some, hu.2.2 N (by omega), Option.bind_some, w64_nat i (by omega)]
    simp only [orO_some, Option.bind_some]
    have hself : ∀ c, L[i]? = some c → c = L[i] := fun c hc => by rw [List.getElem?_eq_getElem hlt] at hc; exact (Option.some.inj hc).symm
    cases hb : (decide (v < 0) || decide ((u : Int) < v))
    · simp only [cond_false]
      refine ih (i + 1) N s v (by omega) (by omega) ?_
      simp only [Bool.or_eq_false_iff, decide_eq_false_iff_not] at hb
      rcases hB with ⟨_, e⟩ | ⟨h1, w, rfl, h2, h3⟩
      · omega
      · refine .inr ⟨h1, w, rfl, h2, fun j c x hj hc hx => ?_⟩
        by_cases hji : j = i
        · subst hji
          have := hself c hc
          subst this
          have := hx.uniq hu
          omega
        · exact h3 j c x (by omega) hc hx
    · simp only [cond_true]
      refine ih (i + 1) N L[i] (u : Int) (by omega) (by omega) (.inr ⟨List.getElem_mem hlt, u, rfl, hu, fun j c x hj hc hx => ?_⟩)
      by_cases hji : j = i
      · subst hji
        have := hself c hc
        subst this
        have := hx.uniq hu
        omega
      · simp only [Bool.or_eq_true, decide_eq_true_eq] at hb
        rcases hB with ⟨h0, _⟩ | ⟨h1, w, rfl, h2, h3⟩
        · omega
        · have := h3 j c x (by omega) hc hx
          omega
theorem best_ok (N : Nat) (hN : 6000 < N) (a b : Str) (ha : RowD a 3) (hb : RowD b 3) (m : Int) (h0 : 0 ≤ m) (h2 : m ≤ 2) : ∃ (s : List Int) (v : Nat), i_BestStops N [a, b] m = some (s, (v : Int), 0) ∧ Ch m s ∧ Mv a b s v ∧ ∀ c u, Ch m c → Mv a b c u → v ≤ u := by
  have main : ∀ L : List (List Int), L.length ≤ 5000 → (∀ c, c ∈ L ↔ Ch m c) → L ≠ [] → ∃ (s : List Int) (v : Nat), i_BestStops_l3 (fun (l67 : List Int) (x69 : Int) => some (l67, x69, 0)) [a, b] L N [] (-1) 0 = some (s, (v : Int), 0) ∧ Ch m s ∧ Mv a b s v ∧ ∀ c u, Ch m c → Mv a b c u → v ≤ u := fun L hl hc hne => by
    obtain ⟨s', v', hB, e⟩ := bs_l3 (fun (l67 : List Int) (x69 : Int) => some (l67, x69, 0)) a b L hl (fun c h => mv_ex c (ch_vs ((hc c).1 h)).1 a b ha hb) L.length 0 N [] (-1) (by omega) (by omega) (.inl ⟨rfl, rfl⟩)
    rcases hB with ⟨h1, _⟩ | ⟨h1, w, rfl, h3, h4⟩
    · exact absurd (List.eq_nil_of_length_eq_zero h1) hne
    · refine ⟨s', w, e, (hc _).1 h1, h3, fun c u hcc hu => ?_⟩
      obtain ⟨j, hj, hjc⟩ := List.getElem_of_mem ((hc c).2 hcc)
      exact h4 j c u hj (by rw [List.getElem?_eq_getElem hj, hjc]) hu
  have hlen : ∀ (n x : Nat), x ≤ 31 → (chs m x n).length ≤ 32 * n := by
    intro n
    induction n with
    | zero => intro x _; simp [chs]
    | succ n ih =>
      intro x hx
      have h1 := prs2_len m x (x + 1) (30 - x)
      simp only [chs, List.length_append]
      have h3 : (if m = 1 then [[(x : Int)]] else ([] : List (List Int))).length ≤ 1 := by split <;> simp
      by_cases hx2 : x + 1 ≤ 31
      · have h4 := ih (x + 1) hx2
        omega
      · have h4 : ∀ (n y : Nat), 31 ≤ y → (chs m y n).length ≤ n := by
          intro n
          induction n with
          | zero => intro y _; simp [chs]
          | succ n ih =>
            intro y hy
            have h1 := prs2_len m y (y + 1) (30 - y)
            have h5 : (if m = 1 then [[(y : Int)]] else ([] : List (List Int))).length ≤ 1 := by split <;> simp
            have h6 := ih (y + 1) (by omega)
            simp only [chs, List.length_append]
            omega
        have := h4 n (x + 1) (by omega)
        omega
  unfold i_BestStops i_between
  rw [rowsCode_ok N a b ha.2.1 hb.2.1 (by omega)]
  have hb1 : (decide (m ≥ 0) && decide (m ≤ 2)) = true := by simp [h0, h2]
  simp only [Option.bind_some, bne_self_eq_false, cond_false, andO_some, hb1, Bool.not_true, withK_eq]
  rw [show (1 : Int) = ((1 : Nat) : Int) from rfl, bs_l1 _ m 30 1 N [] (by omega) (by omega) (by simp)]
  simp only [List.nil_append]
  by_cases hm0 : m = 0
  · subst hm0
    have hbb : ((0 : Int) == 0) = true := rfl
    simp only [hbb, cond_true]
    refine main [[]] (by simp) (fun c => ?_) (by simp)
    unfold Ch
    simp
  · have hbb : (m == 0) = false := by rw [beq_eq_false_iff_ne]; exact hm0
    simp only [hbb, cond_false]
    have hl := hlen 30 1 (by omega)
    have hmem := fun c => chs_mem m hm0 c 30 1 (by omega) (Nat.le_refl _)
    refine main _ (by omega) (fun c => ?_) ?_
    · rw [hmem]
      unfold Ch
      constructor
      · rintro (⟨e, s, g⟩ | ⟨e, s, y, g⟩)
        · exact .inr (.inl ⟨e, s, g⟩)
        · exact .inr (.inr ⟨e, s, y, g⟩)
      · rintro (⟨e, _⟩ | ⟨e, s, g⟩ | ⟨e, s, y, g⟩)
        · exact absurd e hm0
        · exact .inl ⟨e, s, g⟩
        · exact .inr ⟨e, s, y, g⟩
    · intro hnil
      have hm12 : m = 1 ∨ m = 2 := by omega
      rcases hm12 with rfl | rfl
      · have : [((1 : Nat) : Int)] ∈ chs 1 1 30 := (hmem _).2 (.inl ⟨rfl, 1, by omega, by omega, rfl⟩)
        rw [hnil] at this; cases this
      · have : [((1 : Nat) : Int), ((2 : Nat) : Int)] ∈ chs 2 1 30 := (hmem _).2 (.inr ⟨rfl, 1, 2, by omega, by omega, by omega, rfl⟩)
        rw [hnil] at this; cases this
theorem page_ok (N : Nat) (hN : 800 < N) {a b : Str} (ha : RowD a 3) (hb : RowD b 3) {m : Int} {c : List Int} (h : Ch m c) {v : Nat} (hv : Mv a b c v) : i_PageMoves N c [a, b] = some ((v : Int), 0) := by
  obtain ⟨h1, h2, _⟩ := ch_vs h
  unfold i_PageMoves
  simp only [validStops_ok N c h1 h2 (by omega), Option.bind_some, Bool.not_true, cond_false, rowsCode_ok N a b ha.2.1 hb.2.1 (by omega), bne_self_eq_false, hv.2.2 N (by omega)]
/-! A plan that runs. -/
theorem isLetter_ok (N : Nat) (ch : UInt8) (h : 33 ≤ ch ∧ ch ≤ 126) (hN : 20 ≤ N) : i_isLetter N [ch] = some true := by
  have e := isText_ok N [ch] 33 1 (by simp) (by simp) (fun c hc => by
    obtain rfl : c = ch := by simpa using hc
    obtain ⟨a, b⟩ := h
    simp only [UInt8.lt_iff_toNat_lt, UInt8.le_iff_toNat_le, gt_iff_lt] at *
    omega) (by simp; omega)
  unfold i_isLetter
  rw [e]
  rfl
theorem run_path (stops : List Int) (hs : VS stops) (T : Str) (hT : T.length ≤ 1000) (kj : Str → Option (Str × Int)) : ∀ (p : Str) (c q i N : Nat) (l : Str), (∀ m ∈ p, m ∈ three) → go stops c p = some q → c ≤ 30 → (∃ r, T.drop i = p ++ r) → p.length + 50 ≤ N →
    i_RunPlan_l1 kj stops T N l (c : Int) (i : Int) = i_RunPlan_l1 kj stops T (N - p.length) l (q : Int) ((i + p.length : Nat) : Int) := by
  intro p
  induction p with
  | nil =>
    intro c q i N l _ hg _ _ _
    obtain rfl : c = q := Option.some.inj hg
    rfl
  | cons m p ih =>
    intro c q i N l hm hg hc hd hN
    obtain ⟨N, rfl⟩ := pos_fuel (show 0 < N by omega)
    simp only [List.length_cons] at hN
    obtain ⟨r, hr⟩ := hd
    have hil : i < T.length := by
      have := congrArg List.length hr
      simp at this
      omega
    have hi : (i : Int) < (T.length : Int) := by omega
    rw [List.drop_eq_getElem_cons hil] at hr
    obtain ⟨g1, g2⟩ := List.cons.inj hr
    simp only [go] at hg
    obtain ⟨q1, h1, h2⟩ := Option.bind_eq_some_iff.1 hg
    obtain ⟨hq1, _⟩ := mvP_le stops hs c hc m q1 h1
    obtain ⟨x, e1, e2⟩ := moved_ok N stops hs c hc m (by omega)
    have := ih q1 q (i + 1) N l (fun x hx => hm x (by simp [hx])) h2 hq1 ⟨r, g2⟩ (by omega)
    have hm3 := hm m (by simp)
    have e3 : i_moved N stops (c : Int) m = some ((q1 : Int), true) := by rw [e1, h1, e2 q1 h1]; rfl
    have e4 : (i_moved N stops (c : Int) m).bind (fun r35 => bif !r35.2 then some (([] : Str), (7 : Int)) else i_RunPlan_l1 kj stops T N l r35.1 (w64 ((i : Int) + 1))) = i_RunPlan_l1 kj stops T N l (q1 : Int) ((i + 1 : Nat) : Int) := by
      rw [e3, w64_nat i (by omega)]; rfl
    rw [show N + 1 - (m :: p).length = N - p.length by simp, show i + (m :: p).length = i + 1 + p.length by simp; omega, ← this, ← e4]
    simp only [three, List.mem_cons, List.not_mem_nil, or_false] at hm3
    simp only [i_RunPlan_l1, hi, decide_true, cond_true, withK_eq, idx_lt T i hil, Option.bind_some, g1]
    rcases hm3 with rfl | rfl | rfl <;> rfl
theorem pad_ok (kj : Str → Option (Str × Int)) (x : Nat) (hx : x ≤ 100) : ∀ (n N : Nat) (l : Str), l.length + n = x + 1 → n < N → i_RunPlan_l2 kj (x : Int) N l = kj (l ++ List.replicate n 32) := by
  intro n
  induction n with
  | zero =>
    intro N l h1 h2
    obtain ⟨N, rfl⟩ := pos_fuel h2
    have : ¬ (l.length : Int) ≤ (x : Int) := by omega
    simp only [i_RunPlan_l2, this, decide_false, cond_false, List.replicate_zero, List.append_nil]
  | succ n ih =>
    intro N l h1 h2
    obtain ⟨N, rfl⟩ := pos_fuel h2
    have : (l.length : Int) ≤ (x : Int) := by omega
    simp only [i_RunPlan_l2, this, decide_true, cond_true]
    rw [app_some _ _ (by unfold LIM; simp; omega), Option.bind_some, ih N _ (by simp; omega) (by omega), List.append_assoc]
    rfl
theorem pad_set (row : Str) (at_ x : Nat) (h : at_ ≤ x) (hx : x < row.length) (hb : ∀ j, at_ ≤ j → j < x → row[j]? = some 32) :
    (row.take at_ ++ List.replicate (x + 1 - at_) 32)[x]? = some 32 ∧ (row.take at_ ++ List.replicate (x + 1 - at_) 32).set x row[x] = row.take (x + 1) := by
  have hl : (row.take at_).length = at_ := by rw [List.length_take]; omega
  refine ⟨by rw [List.getElem?_append_right (by omega), hl, List.getElem?_replicate, if_pos (by omega)], List.ext_getElem? fun j => ?_⟩
  by_cases hj : j = x
  · subst hj
    rw [List.getElem?_set_self (by simp [hl]; omega), List.getElem?_take, if_pos (by omega), List.getElem?_eq_getElem hx]
  · rw [List.getElem?_set_ne (Ne.symm hj), List.getElem?_take]
    by_cases h1 : j < at_
    · rw [List.getElem?_append_left (by omega), List.getElem?_take, if_pos h1, if_pos (by omega)]
    · rw [List.getElem?_append_right (by omega), hl, List.getElem?_replicate]
      by_cases h2 : j < x + 1
      · rw [if_pos (by omega), if_pos h2, hb j (by omega) (by omega)]
      · rw [if_neg (by omega), if_neg h2]
theorem run_segs (stops : List Int) (hs : VS stops) (row : Str) (hr : Row row) (T : Str) (hT : T.length ≤ 1000) (kj : Str → Option (Str × Int)) {x at_ : Nat} {l : List (Str × UInt8)} (h : Segs stops row x at_ l) :
    ∀ (i N : Nat), T.drop i = flat l → at_ ≤ x → (∀ j, at_ ≤ j → j < x → row[j]? = some 32) → T.length + 200 ≤ N + i ∧ i ≤ T.length →
    i_RunPlan_l1 kj stops T N (row.take at_) (at_ : Int) (i : Int) = kj row := by
  obtain ⟨h30, hch, hlast⟩ := hr
  induction h with
  | @done at_ =>
    intro i N hd h1 h2 h3
    have hi : ¬ (i : Int) < (T.length : Int) := by
      have := congrArg List.length hd
      simp [flat] at this
      omega
    obtain ⟨N, rfl⟩ := pos_fuel (show 0 < N by
      have := congrArg List.length hd
      simp [flat] at this
      omega)
    have : at_ = row.length := by
      rcases Nat.lt_or_eq_of_le h1 with h | h
      · have := h2 (row.length - 1) (by omega) (by omega)
        rw [List.getElem?_eq_getElem (by omega)] at this
        exact (hlast (by omega) (Option.some.inj this)).elim
      · exact h
    rw [this, List.take_length]
    simp only [i_RunPlan_l1, hi, decide_false, cond_false]
  | @blank x at_ l hx hb hseg ih =>
    intro i N hd h1 h2 h3
    refine ih i N hd (by omega) (fun j hj hj2 => ?_) h3
    by_cases e : j = x
    · subst e; rw [List.getElem?_eq_getElem hx, hb]
    · exact h2 j hj (by omega)
  | @letter x at_ p l hx hb hp hm hg _ hseg ih =>
    intro i N hd h1 h2 h3
    rw [flat_cons] at hd
    have hlen := congrArg List.length hd
    simp only [List.length_drop, List.length_append, List.length_cons, List.length_nil] at hlen
    have hpath := run_path stops hs T hT kj p at_ x i N (row.take at_) hm hg (by omega) ⟨[39, row[x]] ++ flat l, by rw [hd]; simp⟩ (by omega)
    rw [hpath]
    obtain ⟨M, hM⟩ : ∃ M, N - p.length = M + 1 := ⟨N - p.length - 1, by omega⟩
    rw [hM]
    have hd2 : T.drop (i + p.length) = 39 :: row[x] :: flat l := by
      rw [← List.drop_drop, hd]
      simp
    have hk1 : i + p.length < T.length := by omega
    have hk2 : i + p.length + 1 < T.length := by omega
    have g1 : T[i + p.length] = 39 := by
      rw [List.drop_eq_getElem_cons hk1] at hd2
      exact (List.cons.inj hd2).1
    have g2 : T[i + p.length + 1] = row[x] := by
      rw [List.drop_eq_getElem_cons hk1, List.drop_eq_getElem_cons hk2] at hd2
      exact (List.cons.inj (List.cons.inj hd2).2).1
    have hd3 : T.drop (i + p.length + 1 + 1) = flat l := by
      rw [List.drop_eq_getElem_cons hk1, List.drop_eq_getElem_cons hk2] at hd2
      exact (List.cons.inj (List.cons.inj hd2).2).2
    have hlet : 33 ≤ row[x] ∧ row[x] ≤ 126 := (hch _ (List.getElem_mem hx)).resolve_left hb
    have hi1 : ((i + p.length : Nat) : Int) < (T.length : Int) := by omega
    have hn1 : ¬ ((i + p.length + 1 : Nat) : Int) ≥ (T.length : Int) := by omega
    have hn2 : ¬ (x : Int) ≥ 30 := by omega
    obtain ⟨p1, p2⟩ := pad_set row at_ x h1 hx h2
    have hpl : (row.take at_ ++ List.replicate (x + 1 - at_) 32).length = x + 1 := by simp; omega
    have hidx : idx (row.take at_ ++ List.replicate (x + 1 - at_) 32) (x : Int) = some 32 := by rw [idx_nat]; exact p1
    have hs1 := sub1 T (i + p.length + 1) hk2
    have hpad := fun kj => pad_ok kj x (by omega) (x + 1 - at_) M (row.take at_) (by rw [List.length_take]; omega) (by omega)
    have c62 : ((39 : UInt8) == 62) = false := rfl
    have c60 : ((39 : UInt8) == 60) = false := rfl
    have c35 : ((39 : UInt8) == 35) = false := rfl
    simp only [i_RunPlan_l1, hi1, decide_true, cond_true, withK_eq, idx_lt T _ hk1, Option.bind_some, g1, c62, c60, c35, cond_false, beq_self_eq_true, w64_nat (i + p.length) (by omega), hn1, decide_false, orO_false, w64_nat (i + p.length + 1) (by omega), hs1, g2, isLetter_ok M row[x] hlet (by omega), Bool.not_true, hn2, orO_some, Bool.or_self, hpad, hidx, bne_self_eq_false, idx_lt T _ hk2, Int.toNat_natCast, p2, w64_nat x (by omega)]
    exact ih (i + p.length + 1 + 1) M hd3 (Nat.le_refl _) (fun j hj hj2 => by omega) (by omega)
/-! its moves, and its letters -/
theorem three_cases {m : UInt8} (h : m ∈ three) : m = 35 ∨ m = 60 ∨ m = 62 := by simpa [three] using h
theorem pm_path (T : Str) (hT : T.length ≤ 1000) (kj : Int → Option (Int × Int)) : ∀ (p : Str) (i N mv : Nat), (∀ m ∈ p, m ∈ three) → (∃ r, T.drop i = p ++ r) → p.length + 50 ≤ N → mv + p.length ≤ 10000 →
    i_PlanMoves_l1 kj T N (mv : Int) (i : Int) = i_PlanMoves_l1 kj T (N - p.length) ((mv + p.length : Nat) : Int) ((i + p.length : Nat) : Int) := by
  intro p
  induction p with
  | nil => intro i N mv _ _ _ _; rfl
  | cons m p ih =>
    intro i N mv hm hd hN hmv
    obtain ⟨N, rfl⟩ := pos_fuel (show 0 < N by omega)
    simp only [List.length_cons] at hN hmv
    obtain ⟨r, hr⟩ := hd
    have hil : i < T.length := by
      have := congrArg List.length hr
      simp at this
      omega
    have hi : (i : Int) < (T.length : Int) := by omega
    rw [List.drop_eq_getElem_cons hil] at hr
    obtain ⟨g1, g2⟩ := List.cons.inj hr
    have := ih (i + 1) N (mv + 1) (fun x hx => hm x (by simp [hx])) ⟨r, g2⟩ (by omega) (by omega)
    rw [show N + 1 - (m :: p).length = N - p.length by simp, show i + (m :: p).length = i + 1 + p.length by simp; omega, show mv + (m :: p).length = mv + 1 + p.length by simp; omega, ← this]
    simp only [i_PlanMoves_l1, hi, decide_true, cond_true, withK_eq, idx_lt T i hil, Option.bind_some, g1, w64_nat i (by omega), w64_nat mv (by omega)]
    rcases three_cases (hm m (by simp)) with rfl | rfl | rfl <;> rfl
theorem at_letter (T : Str) (i : Nat) (p : Str) (ch : UInt8) (r : Str) (hd : T.drop i = p ++ [39, ch] ++ r) : ∃ h1 : i + p.length < T.length, ∃ h2 : i + p.length + 1 < T.length, T[i + p.length] = 39 ∧ T[i + p.length + 1] = ch ∧ T.drop (i + p.length + 1 + 1) = r := by
  have hlen := congrArg List.length hd
  simp only [List.length_drop, List.length_append, List.length_cons, List.length_nil] at hlen
  have hd2 : T.drop (i + p.length) = 39 :: ch :: r := by
    rw [← List.drop_drop, hd]
    simp
  have hk1 : i + p.length < T.length := by omega
  have hk2 : i + p.length + 1 < T.length := by omega
  rw [List.drop_eq_getElem_cons hk1, List.drop_eq_getElem_cons hk2] at hd2
  exact ⟨hk1, hk2, (List.cons.inj hd2).1, (List.cons.inj (List.cons.inj hd2).2).1, (List.cons.inj (List.cons.inj hd2).2).2⟩
theorem pm_segs (stops : List Int) (row : Str) (hr : Row row) (T : Str) (hT : T.length ≤ 1000) (kj : Int → Option (Int × Int)) {x at_ : Nat} {l : List (Str × UInt8)} (h : Segs stops row x at_ l) :
    ∀ (i N mv : Nat), T.drop i = flat l → T.length + 200 ≤ N + i ∧ i ≤ T.length → mv + total l ≤ 10000 → i_PlanMoves_l1 kj T N (mv : Int) (i : Int) = kj ((mv + total l : Nat) : Int) := by
  obtain ⟨h30, hch, hlast⟩ := hr
  induction h with
  | @done at_ =>
    intro i N mv hd h3 hmv
    have hd' := congrArg List.length hd
    simp [flat] at hd'
    have hi : ¬ (i : Int) < (T.length : Int) := by omega
    obtain ⟨N, rfl⟩ := pos_fuel (show 0 < N by omega)
    simp only [i_PlanMoves_l1, hi, decide_false, cond_false, total, Nat.add_zero]
  | @blank x at_ l hx hb hseg ih => exact ih
  | @letter x at_ p l hx hb hp hm hg _ hseg ih =>
    intro i N mv hd h3 hmv
    rw [flat_cons] at hd
    simp only [total] at hmv ⊢
    have hlen := congrArg List.length hd
    simp only [List.length_drop, List.length_append, List.length_cons, List.length_nil] at hlen
    rw [pm_path T hT kj p i N mv hm ⟨[39, row[x]] ++ flat l, by rw [hd]; simp⟩ (by omega) (by omega)]
    obtain ⟨hk1, hk2, g1, g2, g3⟩ := at_letter T i p row[x] (flat l) hd
    obtain ⟨M, hM⟩ : ∃ M, N - p.length = M + 1 := ⟨N - p.length - 1, by omega⟩
    rw [hM]
    have hlet : 33 ≤ row[x] ∧ row[x] ≤ 126 := (hch _ (List.getElem_mem hx)).resolve_left hb
    have hi1 : ((i + p.length : Nat) : Int) < (T.length : Int) := by omega
    have hn1 : ¬ ((i + p.length + 1 : Nat) : Int) ≥ (T.length : Int) := by omega
    have hs1 := sub1 T (i + p.length + 1) hk2
    have c62 : ((39 : UInt8) == 62) = false := rfl
    have c60 : ((39 : UInt8) == 60) = false := rfl
    have c35 : ((39 : UInt8) == 35) = false := rfl
    simp only [i_PlanMoves_l1, hi1, decide_true, cond_true, withK_eq, idx_lt T _ hk1, Option.bind_some, g1, c62, c60, c35, cond_false, beq_self_eq_true, w64_nat (i + p.length) (by omega), hn1, decide_false, orO_false, w64_nat (i + p.length + 1) (by omega), hs1, g2, isLetter_ok M row[x] hlet (by omega), Bool.not_true]
    rw [ih (i + p.length + 1 + 1) M (mv + p.length) g3 (by omega) (by omega), Nat.add_assoc]
/-! Draws, and the law. -/
theorem stops_l1 (code : List UInt8) (kj : List Int → Option (List Int)) : ∀ (n N : Nat) (a sd : Int) (l : List Int) (at_ : Int), n < N → 0 ≤ a → a + 4 * n ≤ 10000 → l.length + n ≤ 3 → 0 ≤ at_ → at_ + 7 * n ≤ 21 → (∀ i, ∀ h : i < l.length, 1 ≤ l[i] ∧ l[i] ≤ at_) → (∀ i, ∀ h : i + 1 < l.length, l[i] < l[i + 1]) →
    ∃ l', s_A2Stops_l1 kj code N a sd l at_ (n : Int) = kj l' ∧ VS l' ∧ ∀ i, ∀ h : i + 1 < l'.length, l'[i] < l'[i + 1] := by
  have hb : BIG = 1152921504606846976 := rfl
  intro n
  induction n with
  | zero =>
    intro N a sd l at_ hN h0 h1 h2 h3 h4 h5 h6
    obtain ⟨N, rfl⟩ := pos_fuel hN
    exact ⟨l, by simp [s_A2Stops_l1], ⟨by omega, fun i h => by have := h5 i h; omega⟩, h6⟩
  | succ n ih =>
    intro N a sd l at_ hN h0 h1 h2 h3 h4 h5 h6
    obtain ⟨N, rfl⟩ := pos_fuel hN
    have hi : ((n + 1 : Nat) : Int) > 0 := by omega
    obtain ⟨v, a1, s1, e1, b1, c1, d1, d2⟩ := pick_ok code a sd 7 h0 (by omega)
    have d2 := d2 (by omega)
    have e2 : w64 (((n + 1 : Nat) : Int) - 1) = (n : Int) := by rw [w64_id (by omega) (by omega)]; omega
    have e3 : w64 (at_ + w64 (1 + v)) = at_ + (1 + v) := by rw [w64_id (x := 1 + v) (by omega) (by omega), w64_id (by omega) (by omega)]
    obtain ⟨l', g1, g2⟩ := ih N a1 s1 (l ++ [at_ + (1 + v)]) (at_ + (1 + v)) (by omega) (by omega) (by omega) (by simp; omega) (by omega) (by omega) (fun i h => by
        simp at h
        by_cases c : i < l.length
        · rw [List.getElem_append_left c]; have := h5 i c; omega
        · obtain rfl : i = l.length := by omega
          simp; omega) (fun i h => by
        simp at h
        by_cases c : i + 1 < l.length
        · rw [List.getElem_append_left (by omega), List.getElem_append_left c]; exact h6 i c
        · have ei : i + 1 = l.length := by omega
          rw [List.getElem_append_left (by omega), List.getElem_append_right (by omega)]
          simp
          have := h5 i (by omega)
          omega)
    refine ⟨l', ?_, g2⟩
    simp only [s_A2Stops_l1, hi, decide_true, cond_true, e1, Option.bind_some, e2, e3]
    rw [app_some _ _ (by unfold LIM; simp; omega), Option.bind_some, g1]
theorem A2Stops_ok (N : Nat) (code : List UInt8) (hN : 10 ≤ N) : ∃ l, s_A2Stops N code = some l ∧ VS l ∧ ∀ i, ∀ h : i + 1 < l.length, l[i] < l[i + 1] := by
  have hb : BIG = 1152921504606846976 := rfl
  have e0 : s_l00From code = some ⟨code, 0, 0⟩ := rfl
  obtain ⟨v, a1, s1, e1, b1, c1, d1, d2⟩ := pick_ok code 0 0 4 (by omega) (by omega)
  have d2 := d2 (by omega)
  obtain ⟨l, g1, g2⟩ := stops_l1 code some v.toNat N a1 s1 [] 0 (by omega) (by omega) (by omega) (by simp; omega) (by omega) (by omega) (fun i h => by simp at h) (fun i h => by simp at h)
  rw [show ((v.toNat : Nat) : Int) = v by omega] at g1
  refine ⟨l, ?_, g2⟩
  simp only [s_A2Stops, e0, Option.bind_some, withK_eq, e1, g1]
theorem RowPlan_ok (stops : List Int) (hs : VS stops) (hri : ∀ i, ∀ h : i + 1 < stops.length, stops[i] < stops[i + 1]) (row : Str) (hr : RowD row 3) :
    ∃ l, (∀ N : Nat, 600 ≤ N → i_rowPlan N stops row = some (flat l, (total l : Int)) ∧ i_RowPlan N stops row = some (flat l, 0) ∧ i_RunPlan N stops (flat l) = some (row, 0) ∧ i_PlanMoves N (flat l) = some ((total l : Int), 0)) ∧ total l ≤ 100 ∧ (flat l).length ≤ 200 ∧ Segs stops row 0 0 l ∧ l.length ≤ 3 := by
  obtain ⟨l, e, hseg, hlen, htot⟩ := rowPlan_ok stops hs row hr.2.1
  have h3 := hr.2.2
  have hfl := flat_length l
  refine ⟨l, fun N hN => ?_, by omega, by omega, hseg, by omega⟩
  have e := e N (by omega)
  have ev := validStops_ok N stops hs hri (by omega)
  have er := isRow_ok N row hr.2.1 (by omega)
  have hg : ¬ (((flat l).length : Nat) : Int) > 200 := by omega
  refine ⟨e, ?_, ?_, ?_⟩
  · unfold i_RowPlan
    simp only [ev, Option.bind_some, Bool.not_true, cond_false, er, e]
  · have := run_segs stops hs row hr.2.1 (flat l) (by omega) (fun l10 => some (l10, 0)) hseg 0 N (by simp) (Nat.le_refl _) (fun j h1 h2 => by omega) (by omega)
    rw [show ((0 : Nat) : Int) = 0 from rfl, List.take_zero] at this
    unfold i_RunPlan
    simp only [ev, Option.bind_some, Bool.not_true, cond_false, hg, decide_false, withK_eq, this]
  · have := pm_segs stops row hr.2.1 (flat l) (by omega) (fun moves3 => some (moves3, 0)) hseg 0 N 0 (by simp) (by omega) (by omega)
    rw [show ((0 : Nat) : Int) = 0 from rfl, Nat.zero_add] at this
    unfold i_PlanMoves
    simp only [hg, decide_false, cond_false, withK_eq, this]
theorem PageMoves_ok (N : Nat) (stops : List Int) (hs : VS stops) (hri : ∀ i, ∀ h : i + 1 < stops.length, stops[i] < stops[i + 1]) (a b : Str) (ha : Row a) (hb : Row b) (x y : Nat) (p q : Str) (hx : ∀ M, N ≤ M + 3 → i_rowPlan M stops a = some (p, (x : Int))) (hy : ∀ M, N ≤ M + 3 → i_rowPlan M stops b = some (q, (y : Int))) (hxy : x + y ≤ 1000) (hN : 600 ≤ N) :
    i_PageMoves N stops [a, b] = some (((x + y : Nat) : Int), 0) := by
  obtain ⟨M, rfl⟩ : ∃ M, N = M + 1 + 1 + 1 := ⟨N - 3, by omega⟩
  have i0 : idx [a, b] 0 = some a := rfl
  have i1 : idx [a, b] 1 = some b := rfl
  have w1 : w64 (0 + 1) = 1 := rfl
  have w2 : w64 (1 + 1) = 2 := rfl
  have d0 : decide ((0 : Int) < (([a, b] : List Str).length : Int)) = true := rfl
  have d1 : decide ((1 : Int) < (([a, b] : List Str).length : Int)) = true := rfl
  have d2 : decide ((2 : Int) < (([a, b] : List Str).length : Int)) = false := rfl
  have s1 : w64 (0 + (x : Int)) = (x : Int) := by rw [w64_id (by omega) (by omega)]; omega
  have s2 : w64 ((x : Int) + (y : Int)) = ((x + y : Nat) : Int) := by rw [w64_id (by omega) (by omega)]; omega
  unfold i_PageMoves i_pageMoves
  simp only [validStops_ok _ stops hs hri (by omega : 20 ≤ M + 1 + 1 + 1), rowsCode_ok _ a b ha hb (by omega : 200 ≤ M + 1 + 1 + 1), Option.bind_some, Bool.not_true, cond_false, bne_self_eq_false, withK_eq, i_pageMoves_l1, d0, cond_true, i0, hx (M + 1 + 1) (by omega), s1, w1, d1, i1, hy (M + 1) (by omega), s2, w2, d2]
end Go.Proofs.Ythpdpfagfkopnaa
