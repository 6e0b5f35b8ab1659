/-
  Plain lemmas on these functions. No conditions but those that each states.
-/
import Derived.Test.YtikkolkickclhaaFnPrizesP9
namespace Go.Proofs.Ytikkolkickclhaa
set_option linter.unusedVariables false
set_option linter.unusedSimpArgs false
/-! Prizes and points. -/
def pzg (q r : Nat) : Nat → List Int → List (Int × Int)
  | _, [] => []
  | k, i :: g => (i, ((if k < r then q + 1 else q : Nat) : Int)) :: pzg q r (k + 1) g
theorem pzg_keys (q r : Nat) : ∀ (g : List Int) (k : Nat), (pzg q r k g).map (·.1) = g
  | [], _ => rfl
  | i :: g, k => by simp only [pzg, List.map_cons, pzg_keys q r g (k + 1)]
theorem pzg_sum (q r : Nat) : ∀ (g : List Int) (k : Nat), isum ((pzg q r k g).map (·.2)) = ((g.length * q + (min r (k + g.length) - min r k) : Nat) : Int)
  | [], k => by simp [pzg, isum]
  | i :: g, k => by
    simp only [pzg, List.map_cons, isum, pzg_sum q r g (k + 1), List.length_cons, Nat.add_mul, Nat.one_mul]
    split <;> omega
theorem pzg_mem (q r : Nat) : ∀ (g : List Int) (k : Nat) (i : Int), i ∈ g → (i, (q : Int)) ∈ pzg q r k g ∨ 0 < r ∧ (i, ((q + 1 : Nat) : Int)) ∈ pzg q r k g
  | x :: g, k, i, h => by
    simp only [pzg]
    rcases List.mem_cons.1 h with rfl | h
    · by_cases hk : k < r
      · rw [if_pos hk]; exact .inr ⟨by omega, List.mem_cons_self⟩
      · rw [if_neg hk]; exact .inl List.mem_cons_self
    · rcases pzg_mem q r g (k + 1) i h with h | ⟨h1, h2⟩
      · exact .inl (List.mem_cons_of_mem _ h)
      · exact .inr ⟨h1, List.mem_cons_of_mem _ h2⟩
/-- the sum of a group, as a natural number -/
def tsn (t : List Int) (a n : Nat) : Nat := (tsm t a n).toNat
def pzP (t : List Int) : Nat → List (List Int) → List (Int × Int)
  | _, [] => []
  | a, g :: r => pzg (tsn t a g.length / g.length) (tsn t a g.length % g.length) 0 g ++ pzP t (a + g.length) r
def ptP (t : List Int) : Nat → List (List Int) → List (Int × Fraction)
  | _, [] => []
  | a, g :: r => g.map (fun i => (i, fr (tsn t a g.length) g.length)) ++ ptP t (a + g.length) r
theorem pzP_keys (t : List Int) : ∀ (G : List (List Int)) (a : Nat), (pzP t a G).map (·.1) = G.flatten
  | [], _ => rfl
  | g :: r, a => by simp only [pzP, List.map_append, pzg_keys, pzP_keys t r, List.flatten_cons]
theorem ptP_keys (t : List Int) : ∀ (G : List (List Int)) (a : Nat), (ptP t a G).map (·.1) = G.flatten
  | [], _ => rfl
  | g :: r, a => by
    simp only [ptP, List.map_append, List.map_map, ptP_keys t r, List.flatten_cons]
    congr 1
    exact (List.map_congr_left (fun _ _ => rfl)).trans (List.map_id g)
section
variable {t : List Int} (ht : ∀ v ∈ t, 0 ≤ v ∧ v ≤ 100000)
include ht
theorem tsn_eq (a n : Nat) : tsm t a n = (tsn t a n : Int) ∧ tsn t a n ≤ 100000 * n := by
  have := tsm_bd t ht n a
  unfold tsn; omega
theorem pzP_sum : ∀ (G : List (List Int)) (a : Nat), (∀ g ∈ G, g ≠ []) → isum ((pzP t a G).map (·.2)) = tsm t a G.flatten.length
  | [], a, _ => by simp [pzP, isum, tsm_zero]
  | g :: r, a, h => by
    have hg := List.length_pos_iff.2 (h g List.mem_cons_self)
    have e := (tsn_eq ht a g.length).1
    have hd := Nat.div_add_mod (tsn t a g.length) g.length
    have hm := Nat.mod_lt (tsn t a g.length) hg
    simp only [pzP, List.map_append, isum_app, pzg_sum, List.flatten_cons, List.length_append, tsm_add]
    rw [pzP_sum r _ (fun x hx => h x (List.mem_cons_of_mem _ hx)), e]
    congr 2
    rw [Nat.zero_add, Nat.min_eq_left (by omega), Nat.min_eq_right (Nat.zero_le _)]
    omega
/-- what an index gets -/
theorem gets : ∀ (G : List (List Int)) (a : Nat), (∀ g ∈ G, g ≠ []) → ∀ i ∈ G.flatten, ∃ s m : Nat, 0 < m ∧ s ≤ 100000 * m ∧ m ≤ G.flatten.length ∧ m ∣ prd G ∧ (i, fr s m) ∈ ptP t a G ∧ ((i, ((s / m : Nat) : Int)) ∈ pzP t a G ∨ 0 < s % m ∧ (i, ((s / m + 1 : Nat) : Int)) ∈ pzP t a G)
  | g :: r, a, h, i, hi => by
    have hg := List.length_pos_iff.2 (h g List.mem_cons_self)
    rw [List.flatten_cons] at hi
    rcases List.mem_append.1 hi with hi | hi
    · refine ⟨tsn t a g.length, g.length, hg, (tsn_eq ht a g.length).2, by simp, prd_dvd _ _ List.mem_cons_self, ?_, ?_⟩
      · simp only [ptP]
        exact List.mem_append_left _ (List.mem_map.2 ⟨i, hi, rfl⟩)
      · simp only [pzP]
        rcases pzg_mem (tsn t a g.length / g.length) (tsn t a g.length % g.length) g 0 i hi with h1 | ⟨h1, h2⟩
        · exact .inl (List.mem_append_left _ h1)
        · exact .inr ⟨h1, List.mem_append_left _ h2⟩
    · obtain ⟨s, m, m1, m2, m3, m4, m5, m6⟩ := gets r (a + g.length) (fun x hx => h x (List.mem_cons_of_mem _ hx)) i hi
      refine ⟨s, m, m1, m2, by rw [List.flatten_cons, List.length_append]; omega, Nat.dvd_trans m4 (Nat.dvd_mul_left _ _), ?_, ?_⟩
      · simp only [ptP]; exact List.mem_append_right _ m5
      · simp only [pzP]
        rcases m6 with h1 | ⟨h1, h2⟩
        · exact .inl (List.mem_append_right _ h1)
        · exact .inr ⟨h1, List.mem_append_right _ h2⟩
omit ht in
theorem rem_nat (a b : Nat) (hb : 0 < b) : remO (a : Int) (b : Int) = some ((a % b : Nat) : Int) := by
  unfold remO
  rw [if_neg (by omega), Int.tmod_eq_emod_of_nonneg (by omega)]
  rfl
/-- one group of prizes -/
theorem pz_i2 (kj : List Int → Option (List Int × Int)) (e30 : Tied) (s : Nat) (hs : s ≤ 100000 * e30.list.length) (hg : e30.list.length ≤ 100) : ∀ (q x N : Nat) (o : List Int), x + q = e30.list.length → q < N → (∀ i ∈ e30.list, 0 ≤ i ∧ i < o.length) → i_PrizesFor_l2 kj e30 (s : Int) N o (x : Int) = kj (setAll o (pzg (s / e30.list.length) (s % e30.list.length) x (e30.list.drop x))) := by
  intro q
  have _ := ht
  induction q with
  | zero =>
    intro x N o h1 h2 _
    obtain ⟨N, rfl⟩ := pos_fuel h2
    have hz : ¬ (x : Int) < (e30.list.length : Int) := by omega
    rw [List.drop_eq_nil_of_le (by omega)]
    simp only [i_PrizesFor_l2, hz, decide_false, cond_false, pzg, setAll]
  | succ q ih =>
    intro x N o h1 h2 h3
    obtain ⟨N, rfl⟩ := pos_fuel h2
    have hx : x < e30.list.length := by omega
    have hz : (x : Int) < (e30.list.length : Int) := by omega
    obtain ⟨b1, b2⟩ := h3 _ (List.getElem_mem hx)
    have hq := quo_nat s e30.list.length (by omega) (by omega)
    have hr := rem_nat s e30.list.length (by omega)
    have hdl : s / e30.list.length ≤ s := Nat.div_le_self _ _
    rw [drop_cons _ x hx]
    simp only [i_PrizesFor_l2, hz, decide_true, cond_true, withK_n, idx_lt _ x hx, Option.bind_some, hq, hr, idx_int o _ b1 b2, w64_nat x (by omega), pzg, setAll]
    have hi2 : idx (o.set (e30.list[x]).toNat ((s / e30.list.length : Nat) : Int)) e30.list[x] = some ((s / e30.list.length : Nat) : Int) := by
      rw [idx_int _ _ b1 (by rw [List.length_set]; exact b2)]
      simp
    by_cases h : x < s % e30.list.length
    · have hz2 : (x : Int) < ((s % e30.list.length : Nat) : Int) := by omega
      have e9 : w64 (((s / e30.list.length : Nat) : Int) + 1) = ((s / e30.list.length + 1 : Nat) : Int) := by
        generalize s / e30.list.length = d at *
        exact w64_nat d (by omega)
      rw [decide_eq_true hz2, cond_true, if_pos h, hi2, Option.bind_some, Option.bind_some, List.set_set, e9, ih (x + 1) N _ (by omega) (by omega) (fun i hi => by rw [List.length_set]; exact h3 i hi)]
    · have hz2 : ¬ (x : Int) < ((s % e30.list.length : Nat) : Int) := by omega
      rw [decide_eq_false hz2, cond_false, if_neg h, ih (x + 1) N _ (by omega) (by omega) (fun i hi => by rw [List.length_set]; exact h3 i hi)]
theorem pz_s2 (kj : List Int → Option (List Int × Int)) (G : List (List Int)) (j : Nat) (g : List Int) (hj : idx G (j : Int) = some g) (s : Nat) (hs : s ≤ 100000 * g.length) (hg : g.length ≤ 100) : ∀ (q x N : Nat) (o : List Int), x + q = g.length → q < N → (∀ i ∈ g, 0 ≤ i ∧ i < o.length) → s_PrizesFor_l2 kj G (j : Int) g (s : Int) N o (x : Int) = kj (setAll o (pzg (s / g.length) (s % g.length) x (g.drop x))) := by
  intro q
  have _ := ht
  induction q with
  | zero =>
    intro x N o h1 h2 _
    obtain ⟨N, rfl⟩ := pos_fuel h2
    have hz : ¬ (x : Int) < (g.length : Int) := by omega
    rw [List.drop_eq_nil_of_le (by omega)]
    simp only [s_PrizesFor_l2, hz, decide_false, cond_false, pzg, setAll]
  | succ q ih =>
    intro x N o h1 h2 h3
    obtain ⟨N, rfl⟩ := pos_fuel h2
    have hx : x < g.length := by omega
    have hz : (x : Int) < (g.length : Int) := by omega
    obtain ⟨b1, b2⟩ := h3 _ (List.getElem_mem hx)
    have hq := quo_nat s g.length (by omega) (by omega)
    have hr := rem_nat s g.length (by omega)
    have hdl : s / g.length ≤ s := Nat.div_le_self _ _
    rw [drop_cons _ x hx]
    simp only [s_PrizesFor_l2, hz, decide_true, cond_true, withK_n, hj, idx_lt _ x hx, Option.bind_some, hq, hr, idx_int o _ b1 b2, w64_nat x (by omega), pzg, setAll]
    have hi2 : idx (o.set (g[x]).toNat ((s / g.length : Nat) : Int)) g[x] = some ((s / g.length : Nat) : Int) := by
      rw [idx_int _ _ b1 (by rw [List.length_set]; exact b2)]
      simp
    by_cases h : x < s % g.length
    · have hz2 : (x : Int) < ((s % g.length : Nat) : Int) := by omega
      have e9 : w64 (((s / g.length : Nat) : Int) + 1) = ((s / g.length + 1 : Nat) : Int) := by
        generalize s / g.length = d at *
        exact w64_nat d (by omega)
      rw [decide_eq_true hz2, cond_true, if_pos h, hi2, Option.bind_some, Option.bind_some, List.set_set, e9, ih (x + 1) N _ (by omega) (by omega) (fun i hi => by rw [List.length_set]; exact h3 i hi)]
    · have hz2 : ¬ (x : Int) < ((s % g.length : Nat) : Int) := by omega
      rw [decide_eq_false hz2, cond_false, if_neg h, ih (x + 1) N _ (by omega) (by omega) (fun i hi => by rw [List.length_set]; exact h3 i hi)]
omit ht in
theorem ties_at (A : List (List Int)) (g : List Int) (B : List (List Int)) : idx (tiesOf 0 (A ++ g :: B)) (A.length : Int) = some ⟨(A.flatten.length : Int) + 1, g⟩ := by
  rw [idx_nat, ties_app, List.getElem?_append_right (by rw [ties_len]; exact Nat.le_refl _), ties_len, Nat.sub_self, Nat.zero_add]
  rfl
omit ht in
theorem grp_at (A : List (List Int)) (g : List Int) (B : List (List Int)) : idx (A ++ g :: B) (A.length : Int) = some g := by
  rw [idx_nat, List.getElem?_append_right (Nat.le_refl _), Nat.sub_self]
  rfl
theorem pz_l1 (kj : List Int → Option (List Int × Int)) : ∀ (B A : List (List Int)) (o : List Int) (N : Nat), (A ++ B).length ≤ 100 → (A ++ B).flatten.length ≤ 100 → B.length + 150 < N → (∀ i ∈ B.flatten, 0 ≤ i ∧ i < o.length) →
    i_PrizesFor_l1 kj t (tiesOf 0 (A ++ B)) N o (A.length : Int) = kj (setAll o (pzP t A.flatten.length B)) ∧ s_PrizesFor_l1 kj t (A ++ B) N o (A.flatten.length : Int) (A.length : Int) = kj (setAll o (pzP t A.flatten.length B))
  | [], A, o, N, h1, h2, h3, h4 => by
    obtain ⟨N, rfl⟩ := pos_fuel h3
    have hz : ¬ (A.length : Int) < ((tiesOf 0 (A ++ [])).length : Int) := by rw [ties_len]; simp
    have hz2 : ¬ (A.length : Int) < ((A ++ []).length : Int) := by simp
    simp only [i_PrizesFor_l1, s_PrizesFor_l1, hz, hz2, decide_false, cond_false, pzP, setAll, and_self]
  | g :: B, A, o, N, h1, h2, h3, h4 => by
    obtain ⟨N, rfl⟩ := pos_fuel h3
    simp only [List.flatten_append, List.flatten_cons, List.length_append, List.length_cons] at h1 h2 h3
    have hz : (A.length : Int) < ((tiesOf 0 (A ++ g :: B)).length : Int) := by rw [ties_len]; simp; omega
    have hz2 : (A.length : Int) < ((A ++ g :: B).length : Int) := by simp; omega
    obtain ⟨e1, e2⟩ := tsn_eq ht A.flatten.length g.length
    have hg : ∀ i ∈ g, 0 ≤ i ∧ i < o.length := fun i hi => h4 i (by rw [List.flatten_cons]; exact List.mem_append_left _ hi)
    have t1 := tot_ok ht g A.flatten.length (by omega) (by omega) N (by omega)
    have t2 := sum_ok ht A.flatten.length g.length (by omega) N (by omega)
    have w1 : w64 ((A.flatten.length : Int) + (g.length : Int)) = ((A.flatten.length + g.length : Nat) : Int) := by rw [w64_id (by omega) (by omega)]; omega
    have ea : (A ++ [g]).flatten.length = A.flatten.length + g.length := by simp
    have el : (A ++ [g]).length = A.length + 1 := by simp
    have ec : A ++ g :: B = (A ++ [g]) ++ B := by simp
    have hB : ∀ i ∈ B.flatten, 0 ≤ i ∧ i < (setAll o (pzg (tsn t A.flatten.length g.length / g.length) (tsn t A.flatten.length g.length % g.length) 0 g)).length := fun i hi => by
      rw [setAll_len]; exact h4 i (by rw [List.flatten_cons]; exact List.mem_append_right _ hi)
    obtain ⟨i1, i2⟩ := pz_l1 kj B (A ++ [g]) (setAll o (pzg (tsn t A.flatten.length g.length / g.length) (tsn t A.flatten.length g.length % g.length) 0 g)) N (by rw [List.length_append, el]; omega) (by rw [List.flatten_append, List.length_append, ea]; omega) (by omega) hB
    rw [ea, el, ← ec] at i1 i2
    simp only [i_PrizesFor_l1, s_PrizesFor_l1, hz, hz2, decide_true, cond_true, withK_n, ties_at, grp_at, Option.bind_some, t1, w1, t2, e1, w64_nat A.length (by omega), pzP, setAll_app]
    rw [show (0 : Int) = ((0 : Nat) : Int) from rfl, pz_i2 ht _ ⟨(A.flatten.length : Int) + 1, g⟩ _ e2 (by show g.length ≤ 100; omega) g.length 0 N o (by show 0 + g.length = g.length; omega) (by omega) hg, pz_s2 ht _ _ A.length g (grp_at A g B) _ e2 (by omega) g.length 0 N o (by omega) (by omega) hg]
    exact ⟨i1, i2⟩
/-- one group of points -/
theorem pt_i2 (kj : List Fraction → Option (List Fraction)) (a : Nat) (ha : a ≤ 100) (g : List Int) (hg : g.length ≤ 100) : ∀ (q x N : Nat) (o : List Fraction), x + q = g.length → q + 150 < N → (∀ i ∈ g, 0 ≤ i ∧ i < o.length) → i_pointsOf_l2 kj t ⟨(a : Int) + 1, g⟩ N o (x : Int) = kj (setAll o ((g.drop x).map fun i => (i, fr (tsn t a g.length) g.length))) := by
  intro q
  induction q with
  | zero =>
    intro x N o h1 h2 _
    obtain ⟨N, rfl⟩ := pos_fuel h2
    have hz : ¬ (x : Int) < (g.length : Int) := by omega
    rw [List.drop_eq_nil_of_le (by omega)]
    simp only [i_pointsOf_l2, hz, decide_false, cond_false, List.map_nil, setAll]
  | succ q ih =>
    intro x N o h1 h2 h3
    obtain ⟨N, rfl⟩ := pos_fuel h2
    have hx : x < g.length := by omega
    have hz : (x : Int) < (g.length : Int) := by omega
    obtain ⟨b1, b2⟩ := h3 _ (List.getElem_mem hx)
    obtain ⟨e1, e2⟩ := tsn_eq ht a g.length
    have t1 := tot_ok ht g a (by omega) (by omega) N (by omega)
    have t2 := (low_ok N (tsn t a g.length) g.length (by omega) (by omega) (by omega) (by omega)).1
    rw [drop_cons _ x hx]
    simp only [i_pointsOf_l2, hz, decide_true, cond_true, idx_lt _ x hx, Option.bind_some, t1, e1, t2, idx_int o _ b1 b2, w64_nat x (by omega), List.map_cons, setAll]
    exact ih (x + 1) N _ (by omega) (by omega) (fun i hi => by rw [List.length_set]; exact h3 i hi)
theorem pt_s2 (kj : List Fraction → Option (List Fraction)) (G : List (List Int)) (j : Nat) (g : List Int) (hj : idx G (j : Int) = some g) (f : Fraction) (hg : g.length ≤ 100) : ∀ (q x N : Nat) (o : List Fraction), x + q = g.length → q < N → (∀ i ∈ g, 0 ≤ i ∧ i < o.length) → s_l22Points_l2 kj G (j : Int) g f N o (x : Int) = kj (setAll o ((g.drop x).map fun i => (i, f))) := by
  intro q
  have _ := ht
  induction q with
  | zero =>
    intro x N o h1 h2 _
    obtain ⟨N, rfl⟩ := pos_fuel h2
    have hz : ¬ (x : Int) < (g.length : Int) := by omega
    rw [List.drop_eq_nil_of_le (by omega)]
    simp only [s_l22Points_l2, hz, decide_false, cond_false, List.map_nil, setAll]
  | succ q ih =>
    intro x N o h1 h2 h3
    obtain ⟨N, rfl⟩ := pos_fuel h2
    have hx : x < g.length := by omega
    have hz : (x : Int) < (g.length : Int) := by omega
    obtain ⟨b1, b2⟩ := h3 _ (List.getElem_mem hx)
    rw [drop_cons _ x hx]
    simp only [s_l22Points_l2, hz, decide_true, cond_true, hj, idx_lt _ x hx, Option.bind_some, idx_int o _ b1 b2, w64_nat x (by omega), List.map_cons, setAll]
    exact ih (x + 1) N _ (by omega) (by omega) (fun i hi => by rw [List.length_set]; exact h3 i hi)
theorem pt_l1 (kj : List Fraction → Option (List Fraction)) : ∀ (B A : List (List Int)) (o : List Fraction) (N : Nat), (∀ g ∈ B, g ≠ []) → (A ++ B).length ≤ 100 → (A ++ B).flatten.length ≤ 100 → B.length + 300 < N → (∀ i ∈ B.flatten, 0 ≤ i ∧ i < o.length) →
    i_pointsOf_l1 kj t (tiesOf 0 (A ++ B)) N o (A.length : Int) = kj (setAll o (ptP t A.flatten.length B)) ∧ s_l22Points_l1 kj t (A ++ B) N o (A.flatten.length : Int) (A.length : Int) = kj (setAll o (ptP t A.flatten.length B))
  | [], A, o, N, h0, h1, h2, h3, h4 => by
    obtain ⟨N, rfl⟩ := pos_fuel h3
    have hz : ¬ (A.length : Int) < ((tiesOf 0 (A ++ [])).length : Int) := by rw [ties_len]; simp
    have hz2 : ¬ (A.length : Int) < ((A ++ []).length : Int) := by simp
    simp only [i_pointsOf_l1, s_l22Points_l1, hz, hz2, decide_false, cond_false, ptP, setAll, and_self]
  | g :: B, A, o, N, h0, h1, h2, h3, h4 => by
    obtain ⟨N, rfl⟩ := pos_fuel h3
    have hgp := List.length_pos_iff.2 (h0 g List.mem_cons_self)
    simp only [List.flatten_append, List.flatten_cons, List.length_append, List.length_cons] at h1 h2 h3
    have hz : (A.length : Int) < ((tiesOf 0 (A ++ g :: B)).length : Int) := by rw [ties_len]; simp; omega
    have hz2 : (A.length : Int) < ((A ++ g :: B).length : Int) := by simp; omega
    obtain ⟨e1, e2⟩ := tsn_eq ht A.flatten.length g.length
    have hg : ∀ i ∈ g, 0 ≤ i ∧ i < o.length := fun i hi => h4 i (by rw [List.flatten_cons]; exact List.mem_append_left _ hi)
    have t2 := sum_ok ht A.flatten.length g.length (by omega) N (by omega)
    have t3 := (low_ok N (tsn t A.flatten.length g.length) g.length hgp (by omega) (by omega) (by omega)).2
    have w1 : w64 ((A.flatten.length : Int) + (g.length : Int)) = ((A.flatten.length + g.length : Nat) : Int) := by rw [w64_id (by omega) (by omega)]; omega
    have ea : (A ++ [g]).flatten.length = A.flatten.length + g.length := by simp
    have el : (A ++ [g]).length = A.length + 1 := by simp
    have ec : A ++ g :: B = (A ++ [g]) ++ B := by simp
    have hB : ∀ i ∈ B.flatten, 0 ≤ i ∧ i < (setAll o (g.map fun i => (i, fr (tsn t A.flatten.length g.length) g.length))).length := fun i hi => by
      rw [setAll_len]; exact h4 i (by rw [List.flatten_cons]; exact List.mem_append_right _ hi)
    obtain ⟨i1, i2⟩ := pt_l1 kj B (A ++ [g]) (setAll o (g.map fun i => (i, fr (tsn t A.flatten.length g.length) g.length))) N (fun x hx => h0 x (List.mem_cons_of_mem _ hx)) (by rw [List.length_append, el]; omega) (by rw [List.flatten_append, List.length_append, ea]; omega) (by omega) hB
    rw [ea, el, ← ec] at i1 i2
    simp only [i_pointsOf_l1, s_l22Points_l1, hz, hz2, decide_true, cond_true, withK_n, ties_at, grp_at, Option.bind_some, w1, t2, e1, t3, w64_nat A.length (by omega), ptP, setAll_app]
    rw [show (0 : Int) = ((0 : Nat) : Int) from rfl, pt_i2 ht _ A.flatten.length (by omega) g (by omega) g.length 0 N o (by omega) (by omega) hg, pt_s2 ht _ _ A.length g (grp_at A g B) _ (by omega) g.length 0 N o (by omega) (by omega) hg]
    exact ⟨i1, i2⟩
end
end Go.Proofs.Ytikkolkickclhaa
