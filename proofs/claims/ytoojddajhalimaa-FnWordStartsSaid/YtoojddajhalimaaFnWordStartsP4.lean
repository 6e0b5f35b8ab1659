/-
  Plain lemmas on these functions. No conditions but those that each states.
-/
import Derived.Test.YtoojddajhalimaaFnWordStartsP3
namespace Go.Proofs.Ytoojddajhalimaa
set_option linter.unusedVariables false
set_option linter.unusedSimpArgs false
theorem sub_take (s : Str) (n : Nat) (h : n ≤ s.length) : sub s 0 (n : Int) = some (s.take n) := by
  rw [sub_some _ _ _ (by omega) (by omega) (by omega)]; simp
theorem start_l3 (W : List Str) (i : Nat) (w : Str) (hwl : w.length ≤ 1000) (k : Nat) (hk : k < W.length) (hl : W.length ≤ 1000) : ∀ (m n : Nat), n + m = w.length → 1 ≤ n → ∃ n', n ≤ n' ∧ n' ≤ w.length ∧ (∀ q, n ≤ q → q < n' → cf W i w q k) ∧ (n' = w.length ∨ ¬ cf W i w n' k) ∧ ∀ N, m < N → ∀ K, i_ShortestStarts_l3 K (i : Int) w (k : Int) W[k] N (n : Int) = K (n' : Int) := by
  intro m
  induction m with
  | zero =>
    intro n h1 h2
    have hn : ¬ ((n : Int) < (w.length : Int)) := by omega
    refine ⟨n, Nat.le_refl _, by omega, fun q h3 h4 => by omega, .inl (by omega), fun N hN K => ?_⟩
    obtain ⟨N, rfl⟩ := pos_fuel hN
    simp only [i_ShortestStarts_l3, hn, decide_false, andO_some, Bool.and_false, Option.bind_some, andO_false, cond_false]
  | succ m ih =>
    intro n h1 h2
    have hn : (n : Int) < (w.length : Int) := by omega
    have hs := sub_take w n (by omega)
    by_cases hc : cf W i w n k
    · obtain ⟨n', g1, g2, g3, g4, g5⟩ := ih (n + 1) (by omega) (by omega)
      refine ⟨n', by omega, g2, fun q h3 h4 => ?_, g4, fun N hN K => ?_⟩
      · by_cases e : q = n
        · subst e; exact hc
        · exact g3 q (by omega) h4
      · obtain ⟨N, rfl⟩ := pos_fuel (by omega : 0 < N)
        obtain ⟨_, c1, c2⟩ := hc
        have e1 : (((k : Int)) != (i : Int)) = true := by simp; omega
        simp only [i_ShortestStarts_l3, hn, decide_true, e1, andO_true, Option.bind_some, hs, (starts_eq _ _).2, c2, cond_true, w64_nat n (by omega)]
        exact g5 N (by omega) K
    · refine ⟨n, Nat.le_refl _, by omega, fun q h3 h4 => by omega, .inr hc, fun N hN K => ?_⟩
      obtain ⟨N, rfl⟩ := pos_fuel (by omega : 0 < N)
      have : (((k : Int)) != (i : Int) && pre (w.take n) W[k]) = false := by
        rw [← Bool.not_eq_true, Bool.and_eq_true]
        rintro ⟨f1, f2⟩
        exact hc ⟨hk, by simp at f1; omega, f2⟩
      simp only [i_ShortestStarts_l3, hn, decide_true, andO_some, Bool.and_true, Option.bind_some, hs, (starts_eq _ _).2, this, cond_false]
theorem start_l2 (W : List Str) (i : Nat) (w : Str) (hwl : w.length ≤ 1000) (hl : W.length ≤ 1000) : ∀ (m k n : Nat), k + m = W.length → 1 ≤ n → n ≤ w.length → (∀ q, 1 ≤ q → q < n → ∃ k, cf W i w q k) → (∀ k', k' < k → n = w.length ∨ ¬ cf W i w n k') →
    ∃ n', Least W i w n' ∧ ∀ N, m + 1010 < N → ∀ K, i_ShortestStarts_l2 K W (i : Int) w N (n : Int) (k : Int) = K (n' : Int) := by
  intro m
  induction m with
  | zero =>
    intro k n h1 h2 h3 h4 h5
    have hk : ¬ ((k : Int) < (W.length : Int)) := by omega
    refine ⟨n, ⟨h2, h3, ?_, h4⟩, fun N hN K => ?_⟩
    · by_cases e : n = w.length
      · exact .inl e
      · refine .inr fun k' hc => ?_
        have hk' := hc.1
        rcases h5 k' (by omega) with h | h
        · exact e h
        · exact h hc
    · obtain ⟨N, rfl⟩ := pos_fuel (by omega : 0 < N)
      simp only [i_ShortestStarts_l2, hk, decide_false, cond_false]
  | succ m ih =>
    intro k n h1 h2 h3 h4 h5
    have hk : (k : Int) < (W.length : Int) := by omega
    have hkn : k < W.length := by omega
    obtain ⟨n1, g1, g2, g3, g4, g5⟩ := start_l3 W i w hwl k hkn hl (w.length - n) n (by omega) h2
    obtain ⟨n', f1, f2⟩ := ih (k + 1) n1 (by omega) (by omega) g2 (fun q q1 q2 => by
      by_cases e : q < n
      · exact h4 q q1 e
      · exact ⟨k, g3 q (by omega) q2⟩) (fun k' hk' => by
      by_cases e : k' = k
      · subst e; exact g4
      · rcases h5 k' (by omega) with h | h
        · exact .inl (by omega)
        · by_cases e2 : n1 = w.length
          · exact .inl e2
          · exact .inr (fun hc => h (cf_less hc g1)))
    refine ⟨n', f1, fun N hN K => ?_⟩
    obtain ⟨N, rfl⟩ := pos_fuel (by omega : 0 < N)
    simp only [i_ShortestStarts_l2, hk, decide_true, cond_true, withK_eq, idx_lt W k hkn, Option.bind_some, w64_nat k (by omega)]
    rw [g5 N (by omega)]
    exact f2 N (by omega) K
theorem start_s (W : List Str) (i : Nat) (hi : i < W.length) (hwl : (W[i]).length ≤ 1000) (hl : W.length ≤ 1000) : ∀ (m n : Nat), n + m = (W[i]).length → 1 ≤ n → (∀ q, 1 ≤ q → q < n → ∃ k, cf W i W[i] q k) →
    ∃ n', Least W i W[i] n' ∧ ∀ N, m + W.length + 10 < N → ∀ K, s_ShortestStarts_l2 K W (i : Int) N (n : Int) = K (n' : Int) := by
  intro m
  induction m with
  | zero =>
    intro n h1 h2 h4
    have hn : ¬ ((n : Int) < ((W[i]).length : Int)) := by omega
    refine ⟨n, ⟨h2, by omega, .inl (by omega), h4⟩, fun N hN K => ?_⟩
    obtain ⟨N, rfl⟩ := pos_fuel (by omega : 0 < N)
    simp only [s_ShortestStarts_l2, idx_lt W i hi, Option.bind_some, hn, decide_false, andO_false, cond_false]
  | succ m ih =>
    intro n h1 h2 h4
    have hn : (n : Int) < ((W[i]).length : Int) := by omega
    have hs := sub_take W[i] n (by omega)
    obtain ⟨c1, c2⟩ := cnt_two (n := n) hi rfl
    by_cases hc : cnt W (W[i].take n) > 1
    · obtain ⟨n', f1, f2⟩ := ih (n + 1) (by omega) (by omega) (fun q q1 q2 => by
        by_cases e : q < n
        · exact h4 q q1 e
        · have : q = n := by omega
          subst this; exact c2.1 hc)
      refine ⟨n', f1, fun N hN K => ?_⟩
      obtain ⟨N, rfl⟩ := pos_fuel (by omega : 0 < N)
      have : ((cnt W (W[i].take n) : Nat) : Int) > 1 := by omega
      simp only [s_ShortestStarts_l2, idx_lt W i hi, Option.bind_some, hn, decide_true, andO_true, hs, count_eq N W _ hl (by omega : W.length < N), this, cond_true, w64_nat n (by omega)]
      exact f2 N (by omega) K
    · refine ⟨n, ⟨h2, by omega, .inr (fun k hk => hc (c2.2 ⟨k, hk⟩)), h4⟩, fun N hN K => ?_⟩
      obtain ⟨N, rfl⟩ := pos_fuel (by omega : 0 < N)
      have : ¬ ((cnt W (W[i].take n) : Nat) : Int) > 1 := by omega
      simp only [s_ShortestStarts_l2, idx_lt W i hi, Option.bind_some, hn, decide_true, andO_true, hs, count_eq N W _ hl (by omega : W.length < N), this, decide_false, cond_false]
theorem start_l1 (W : List Str) (hW : Wd W) : ∀ (n i : Nat), i + n = W.length → ∃ M : List Str, M.length = n ∧ (∀ j (h1 : j < M.length) (h2 : i + j < W.length), ∃ q, Least W (i + j) W[i + j] q ∧ M[j] = W[i + j].take q) ∧ ∀ N (o : List Str), n + 2000 < N → o.length + n ≤ 1000 → (∀ K, i_ShortestStarts_l1 K W N o (i : Int) = K (o ++ M)) ∧ ∀ K, s_ShortestStarts_l1 K W N o (i : Int) = K (o ++ M) := by
  have hl := hW.len
  intro n
  induction n with
  | zero =>
    intro i h1
    have hi : ¬ ((i : Int) < (W.length : Int)) := by omega
    refine ⟨[], rfl, fun j h => by simp at h, fun N o hN ho => ?_⟩
    obtain ⟨N, rfl⟩ := pos_fuel (by omega : 0 < N)
    exact ⟨fun K => by simp [i_ShortestStarts_l1, hi], fun K => by simp [s_ShortestStarts_l1, hi]⟩
  | succ n ih =>
    intro i h1
    have hi : (i : Int) < (W.length : Int) := by omega
    have hn : i < W.length := by omega
    have hw := (smw_iff.1 (hW.word _ (List.getElem_mem hn))).2
    obtain ⟨M, m1, m2, m3⟩ := ih (i + 1) (by omega)
    obtain ⟨q, q1, q2⟩ := start_l2 W i W[i] (by omega) (by omega) W.length 0 1 (by omega) (by omega) (by omega) (fun q h h' => by omega) (fun k h => by omega)
    obtain ⟨q', q3, q4⟩ := start_s W i hn (by omega) (by omega) ((W[i]).length - 1) 1 (by omega) (by omega) (fun q h h' => by omega)
    have := q1.unique q3
    subst this
    refine ⟨W[i].take q :: M, by simp [m1], fun j h1 h2 => ?_, fun N o hN ho => ?_⟩
    · cases j with
      | zero => exact ⟨q, q1, rfl⟩
      | succ j =>
        obtain ⟨x, x1, x2⟩ := m2 j (by simpa using h1) (by omega)
        have e : i + (j + 1) = i + 1 + j := by omega
        simp only [e]
        exact ⟨x, x1, by simpa using x2⟩
    · obtain ⟨N, rfl⟩ := pos_fuel (by omega : 0 < N)
      have hs := sub_take W[i] q q1.le
      obtain ⟨k1, k2⟩ := m3 N (o ++ [W[i].take q]) (by omega) (by simp; omega)
      have ea : app o [W[i].take q] = some (o ++ [W[i].take q]) := app_some _ _ (by simp; unfold LIM; omega)
      refine ⟨fun K => ?_, fun K => ?_⟩
      · simp only [i_ShortestStarts_l1, hi, decide_true, cond_true, withK_eq, idx_lt W i hn, Option.bind_some]
        have := q2 N (by omega)
        rw [show ((1 : Nat) : Int) = 1 from rfl, show ((0 : Nat) : Int) = 0 from rfl] at this
        rw [this]
        simp only [hs, Option.bind_some, ea, w64_nat i (by omega)]
        rw [k1]; simp
      · simp only [s_ShortestStarts_l1, hi, decide_true, cond_true, withK_eq]
        have := q4 N (by omega)
        rw [show ((1 : Nat) : Int) = 1 from rfl] at this
        rw [this]
        simp only [idx_lt W i hn, hs, Option.bind_some, ea, w64_nat i (by omega)]
        rw [k2]; simp
end Go.Proofs.Ytoojddajhalimaa
