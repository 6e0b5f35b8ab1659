/-
  Plain lemmas on these functions. No conditions but those that each states.
-/
import Derived.Test.YtacdadfaialbpaaFnCodesP7
namespace Go.Proofs.Ytacdadfaialbpaa
set_option linter.unusedVariables false
set_option linter.unusedSimpArgs false
theorem ltL_lt : ∀ a b : Str, ltL a b = true ↔ a < b
  | [], [] => by simp [ltL]
  | [], _ :: _ => by simp [ltL]
  | _ :: _, [] => by simp [ltL]
  | a :: x, b :: y => by
    rw [List.cons_lt_cons_iff, ← ltL_lt x y]
    simp [ltL]
theorem srtT_pw (l : List Str) : (srtT l).Pairwise fun a b => a ≤ b := by
  have := List.pairwise_mergeSort (le := fun x y : Str => decide (x ≤ y)) (fun a b c h1 h2 => by
    simp only [decide_eq_true_eq] at *; exact List.le_trans h1 h2) (fun a b => by
    simp only [Bool.or_eq_true, decide_eq_true_eq]; exact List.le_total a b) l
  unfold srtT
  simpa using this
theorem srtT_eq {a b : List Str} (h : a.Perm b) : srtT a = srtT b :=
  List.Perm.eq_of_pairwise (fun x y _ _ h1 h2 => List.le_antisymm h1 h2) (srtT_pw a) (srtT_pw b) (((srtT_perm a).trans h).trans (srtT_perm b).symm)
theorem srtT_up (l : List Str) (hd : l.Nodup) (i : Nat) (h : i + 1 < (srtT l).length) : ltL (srtT l)[i] (srtT l)[i + 1] = true := by
  have hn : (srtT l).Nodup := (srtT_perm l).nodup_iff.2 hd
  have h1 := List.pairwise_iff_getElem.1 (srtT_pw l) i (i + 1) (by omega) h (by omega)
  have h2 := List.pairwise_iff_getElem.1 hn i (i + 1) (by omega) h (by omega)
  rw [ltL_lt]
  rcases List.le_iff_lt_or_eq.1 h1 with h3 | h3
  · exact h3
  · exact absurd h3 h2
theorem keys_r1 : ∀ (l : List (Str × Str)) (acc : List Str), l.length + acc.length ≤ 1000 → i_RestsOf_r1 l acc = some (acc ++ l.map (·.1))
  | [], acc, _ => by simp [i_RestsOf_r1]
  | p :: l, acc, h => by
    simp only [List.length_cons] at h
    have e : app acc [p.1] = some (acc ++ [p.1]) := app_some _ _ (by simp; unfold LIM; omega)
    simp only [i_RestsOf_r1, e, Option.bind_some]
    rw [keys_r1 l _ (by simp; omega)]
    simp
def mxT (l : List Str) (m : Int) : Int := l.foldl (fun m r => imax m (r.length : Int)) m
theorem mxT_perm {a b : List Str} (h : a.Perm b) (m : Int) : mxT a m = mxT b m :=
  h.foldl_eq' (fun x _ y _ z => by
    simp only [imax]
    (repeat' split) <;> omega) m
theorem long_r1 : ∀ (l : List (Str × Str)) (m : Int), i_LongestRest_r1 l m = some (mxT (l.map (·.1)) m)
  | [], m => rfl
  | p :: l, m => by
    simp only [i_LongestRest_r1, Option.bind_some]
    rw [long_r1 l _]; rfl
theorem rests_eq (N : Nat) (W : List Str) (hW : Cw W) (D : List (Str × Str)) (hD : i_restTexts N W = some D) (hl : D.length ≤ 25) (hN : 40 < N) : i_RestsOf N W = some (srtT (D.map (·.1)), 0) := by
  unfold i_RestsOf
  simp only [valid_eq N W hW hN, Option.bind_some, Bool.not_true, cond_false, withK_eq, hD]
  refine ordO_of fun l' hp => ?_
  have hll := hp.length_eq
  have e1 := keys_r1 l' [] (by simp; omega)
  rw [List.nil_append] at e1
  have e2 : srtTO (l'.map (·.1)) = some (srtT (l'.map (·.1))) := by
    unfold srtTO; rw [if_pos (by unfold LIM; simp; omega)]
  rw [e1, Option.bind_some, e2, Option.bind_some, srtT_eq (hp.symm.map _)]
theorem long_eq (N : Nat) (W : List Str) (hW : Cw W) (D : List (Str × Str)) (hD : i_restTexts N W = some D) (hN : 40 < N) (hm : mgetO D [] = none) : i_LongestRest N W = some (mxT (D.map (·.1)) 0, 0) := by
  unfold i_LongestRest
  simp only [valid_eq N W hW hN, Option.bind_some, Bool.not_true, cond_false, withK_eq, hD, hm, Option.isSome_none]
  refine ordO_of fun l' hp => ?_
  rw [long_r1, Option.bind_some, mxT_perm (hp.symm.map _)]
theorem long_eq2 (N : Nat) (W : List Str) (hW : Cw W) (D : List (Str × Str)) (hD : i_restTexts N W = some D) (hN : 40 < N) (t : Str) (hm : mgetO D [] = some t) : i_LongestRest N W = some (0, 9) := by
  unfold i_LongestRest
  simp only [valid_eq N W hW hN, Option.bind_some, Bool.not_true, cond_false, cond_true, withK_eq, hD, hm, Option.isSome_some]
theorem has_l1 (X : List Str) (s : Str) (hl : X.length ≤ 1000) : ∀ (n i N : Nat), i + n = X.length → n < N → w_a2HasText_l1 (some false) X s N (i : Int) = some ((X.drop i).any (· == s)) := by
  intro n
  induction n with
  | zero =>
    intro i N h1 h3
    obtain ⟨N, rfl⟩ := pos_fuel h3
    have hi : ¬ ((i : Int) < (X.length : Int)) := by omega
    have e2 : X.drop i = [] := List.drop_of_length_le (by omega)
    simp [w_a2HasText_l1, hi, e2]
  | succ n ih =>
    intro i N h1 h3
    obtain ⟨N, rfl⟩ := pos_fuel h3
    have hi : (i : Int) < (X.length : Int) := by omega
    have hn : i < X.length := by omega
    rw [drop_cons X i hn]
    cases hc : (X[i] == s)
    · simp only [w_a2HasText_l1, hi, decide_true, cond_true, cond_false, idx_lt X i hn, Option.bind_some, hc, List.any_cons, Bool.false_or, w64_nat i (by omega)]
      exact ih (i + 1) N (by omega) (by omega)
    · simp only [w_a2HasText_l1, hi, decide_true, cond_true, idx_lt X i hn, Option.bind_some, hc, List.any_cons, Bool.true_or]
theorem has_eq (N : Nat) (X : List Str) (s : Str) (hl : X.length ≤ 1000) (hN : X.length < N) : w_a2HasText N X s = some (X.any (· == s)) := by
  have := has_l1 X s hl X.length 0 N (by omega) hN
  rw [show ((0 : Nat) : Int) = 0 from rfl, List.drop_zero] at this
  unfold w_a2HasText
  rw [withK_eq, this]
theorem up_l1 (X : List Str) (c : Int) (hl : X.length ≤ 1000) (hu : ∀ (i : Nat) (h : i + 1 < X.length), ltL X[i] X[i + 1] = true) (K : Int → Option Bool) : ∀ (n i N : Nat) (m : Int), i + n = X.length → n < N → w_FnCodes_l1 K (X, c) N m (i : Int) = K (mxT (X.drop i) m) := by
  intro n
  induction n with
  | zero =>
    intro i N m h1 h3
    obtain ⟨N, rfl⟩ := pos_fuel h3
    have hi : ¬ ((i : Int) < (X.length : Int)) := by omega
    have e2 : X.drop i = [] := List.drop_of_length_le (by omega)
    simp [w_FnCodes_l1, hi, e2, mxT]
  | succ n ih =>
    intro i N m h1 h3
    obtain ⟨N, rfl⟩ := pos_fuel h3
    have hi : (i : Int) < (X.length : Int) := by omega
    have hn : i < X.length := by omega
    have hc : (andO (decide ((i : Int) > 0)) ((idx X (w64 ((i : Int) - 1))).bind fun e60 => (idx X (i : Int)).bind fun e62 => some (!ltL e60 e62))) = some false := by
      cases i with
      | zero => simp
      | succ j =>
        have e1 : w64 (((j + 1 : Nat) : Int) - 1) = (j : Int) := by rw [w64_id (by omega) (by omega)]; omega
        rw [e1, idx_lt X j (by omega), idx_lt X (j + 1) hn, Option.bind_some, Option.bind_some, hu j hn, andO_some]; simp
    rw [drop_cons X i hn]
    simp only [w_FnCodes_l1, hi, decide_true, cond_true]
    rw [hc]
    simp only [Option.bind_some, cond_false, idx_lt X i hn, w64_nat i (by omega)]
    exact ih (i + 1) N _ (by omega) (by omega)
theorem heads_l2 (W : List Str) (hW : Cw W) (T : Str) (c : Int) (hT : T.length ≤ 60) (hc : ∀ c ∈ T, c = 97 ∨ c = 98) (hu : ∀ i, i < T.length → ∀ A B, Rd W A (T.take i) → Rd W B (T.take i) → A = B) (K : Option Bool) : ∀ (n i N : Nat), i + n = T.length → n + 500 < N → w_FnCodes_l2 K W (T, c) N (i : Int) = K := by
  intro n
  induction n with
  | zero =>
    intro i N h1 h3
    obtain ⟨N, rfl⟩ := pos_fuel (by omega : 0 < N)
    have hi : ¬ ((i : Int) < (T.length : Int)) := by omega
    simp [w_FnCodes_l2, hi]
  | succ n ih =>
    intro i N h1 h3
    obtain ⟨N, rfl⟩ := pos_fuel (by omega : 0 < N)
    have hi : (i : Int) < (T.length : Int) := by omega
    have hs : sub T 0 (i : Int) = some (T.take i) := by rw [sub_some _ _ _ (by omega) (by omega) (by omega)]; simp
    obtain ⟨v, v1, v2⟩ := cnt_eq N W hW (T.take i) (by simp; omega) (fun c h => hc c (List.mem_of_mem_take h)) (by omega)
    have hv := v1.le (hu i (by omega))
    have hb : ¬ (v > 1) := by omega
    simp only [w_FnCodes_l2, hi, decide_true, cond_true, hs, Option.bind_some, v2, bne_self_eq_false, orO_some, hb, decide_false, Bool.or_self, cond_false, w64_nat i (by omega)]
    exact ih (i + 1) N (by omega) (by omega)
theorem law_FnCodes (code more : List UInt8) (_ : wfL wfByte code) (_ : wfL wfByte more) : ∃ N, w_FnCodes N code more = some true := by
  obtain ⟨N, hN⟩ : ∃ N, N = 30000 := ⟨_, rfl⟩
  refine ⟨N, ?_⟩
  unfold w_FnCodes
  simp only [w_a2Long, orO_some, Option.bind_some]
  cases hbig : (decide ((code.length : Int) > 3000) || decide ((more.length : Int) > 3000))
  · obtain ⟨W, e1, hW⟩ := Code_ok code N (by omega)
    have hwl := hW.len
    obtain ⟨D, hI, hD, hD0⟩ := rt_eq N W hW (by omega)
    have hfew := hI.few hW
    have hval := valid_eq N W hW (by omega)
    have hfr := fr_eq N W hW (by omega)
    have e2 : i_IsPrefixFree N W = some ((((fR W).length : Int) == 0), 0) := by
      unfold i_IsPrefixFree
      simp only [hval, Option.bind_some, Bool.not_true, cond_false, hfr]
    have e3 : i_IsUnique N W = some (!(Option.isSome (mgetO D [])), 0) := by
      unfold i_IsUnique
      simp only [hval, Option.bind_some, Bool.not_true, cond_false, hD]
    have e4 := rests_eq N W hW D hD hfew (by omega)
    obtain ⟨X, hX⟩ : ∃ X, X = srtT (D.map (·.1)) := ⟨_, rfl⟩
    have hXp : X.Perm (D.map (·.1)) := by rw [hX]; exact srtT_perm _
    have hXl : X.length = D.length := by rw [hXp.length_eq, List.length_map]
    have hXu : ∀ (i : Nat) (h : i + 1 < X.length), ltL X[i] X[i + 1] = true := by
      subst hX; exact fun i h => srtT_up _ hI.nd i h
    rw [← hX] at e4
    have hXe : (((fR W).length : Int) == 0) = (((X.length : Nat) : Int) == 0) := by
      rw [Bool.eq_iff_iff, beq_iff_eq, beq_iff_eq]
      constructor
      · intro h
        have h1 := hD0 (List.eq_nil_of_length_eq_zero (by omega))
        rw [hXl, h1]; rfl
      · intro h
        have h1 : D = [] := List.eq_nil_of_length_eq_zero (by omega)
        cases hf : fR W with
        | nil => rfl
        | cons a r =>
          obtain ⟨i, k, hi, hk, g1, g2, _⟩ := (fR_mem W a).1 (by rw [hf]; simp)
          obtain ⟨t, g3, _⟩ := (hI.fst i k hi hk g1 g2).done
          rw [h1] at g3; cases g3
    have hmx : mxT (D.map (·.1)) 0 = mxT X 0 := mxT_perm hXp.symm 0
    have e7 := has_eq N X [] (by omega) (by omega)
    obtain ⟨L, e8, l1, l2⟩ := Ind_ok more W.length N (by omega) (by omega)
    obtain ⟨t1, t2⟩ := enc_len hW L
    have e9 := enc_eq N W hW L l2 (by omega) (by omega) (by omega)
    have hR := Rd_enc W L l2
    obtain ⟨v, v1, v2⟩ := cnt_eq N W hW (enc W L) (by omega) t2 (by omega)
    have hv1 := v1.one hR
    have hv1' : v ≥ 1 := by omega
    have eup := fun K => up_l1 X 0 (by omega) hXu K X.length 0 N 0 (by omega) (by omega)
    rw [show ((0 : Nat) : Int) = 0 from rfl] at eup
    obtain ⟨m1, m2⟩ := mgetO_mem D []
    cases hm : mgetO D [] with
    | none =>
      have hno := m2 hm
      have e5 : i_TwoReadings N W = some ([], 3) := by
        unfold i_TwoReadings
        simp only [hval, Option.bind_some, Bool.not_true, cond_false, hD, hm, Option.isSome_none, Bool.not_false, cond_true]
      have e6 := long_eq N W hW D hD (by omega) hm
      have hh : X.any (· == ([] : Str)) = false := by
        rw [List.any_eq_false]
        intro x hx
        obtain ⟨p, hp, rfl⟩ := List.mem_map.1 (hXp.mem_iff.1 hx)
        intro he
        exact hno p hp (eq_of_beq he)
      have hv2 : v = 1 := by
        have := v1.le (fun A B hA hB => by
          apply Classical.byContradiction
          intro hne
          obtain ⟨t, ht, _⟩ := two_read hW hI hA hB hne
          exact hno _ ht rfl)
        omega
      rw [hm] at e3
      simp only [cond_false, e1, e2, Option.bind_some, e3, e4, e5, e6, e7, hh, hXe, hmx, Option.isSome_none, Bool.not_false, Bool.not_true, bne_self_eq_false, orO_some, andO_some, Bool.and_false, Bool.or_false, beq_self_eq_true, withK_eq, eup, List.drop_zero, e8, e9, v2, hv2, Bool.and_self]
      rfl
    | some T =>
      have hT := m1 T hm
      have e5 : i_TwoReadings N W = some (T, 0) := by
        unfold i_TwoReadings
        simp only [hval, Option.bind_some, Bool.not_true, cond_false, hD, hm, Option.isSome_some, Option.getD_some]
      have e6 := long_eq2 N W hW D hD (by omega) T hm
      have hh : X.any (· == ([] : Str)) = true := by
        rw [List.any_eq_true]
        exact ⟨[], hXp.mem_iff.2 (List.mem_map.2 ⟨_, hT, rfl⟩), rfl⟩
      have hX0 : (((X.length : Nat) : Int) == 0) = false := by
        have : 0 < D.length := List.length_pos_of_mem hT
        have : ((X.length : Nat) : Int) ≠ 0 := by omega
        simpa using this
      obtain ⟨A, B, hne, hA, hB, hAv, hTe⟩ := twice hI hT
      have hTc : ∀ c ∈ T, c = 97 ∨ c = 98 := by rw [hTe]; exact (enc_len hW A).2
      rw [hm] at e3
      by_cases hl : T.length ≤ 60
      · obtain ⟨q, q1, q2⟩ := cnt_eq N W hW T hl hTc (by omega)
        have hq := q1.two hA hB hne
        have hq' : ¬ (q < 2) := by omega
        have hll : ((T.length : Nat) : Int) ≤ 60 := by omega
        have eh := fun K => heads_l2 W hW T 0 hl hTc (fun i hi A B hA hB => by
          apply Classical.byContradiction
          intro hne
          obtain ⟨t, ht, hl⟩ := two_read hW hI hA hB hne
          have := nd_fun hI.nd ht hT
          subst this
          simp only [List.length_take] at hl
          omega) K T.length 0 N (by omega) (by omega)
        rw [show ((0 : Nat) : Int) = 0 from rfl] at eh
        simp only [cond_false, cond_true, e1, e2, Option.bind_some, e3, e4, e5, e6, e7, hh, hXe, hX0, Option.isSome_some, Bool.not_false, Bool.not_true, bne_self_eq_false, orO_some, andO_some, Bool.and_false, Bool.false_and, Bool.or_false, beq_self_eq_true, withK_eq, eup, List.drop_zero, hll, decide_true, Bool.and_self, q2, hq', decide_false, eh, e8, e9, v2, hv1', Bool.true_or, Bool.and_true]
        rfl
      · have hll : ¬ ((T.length : Nat) : Int) ≤ 60 := by omega
        simp only [cond_false, e1, e2, Option.bind_some, e3, e4, e5, e6, e7, hh, hXe, hX0, Option.isSome_some, Bool.not_false, Bool.not_true, bne_self_eq_false, orO_some, andO_some, Bool.and_false, Bool.false_and, Bool.or_false, beq_self_eq_true, withK_eq, eup, List.drop_zero, hll, decide_false, e8, e9, v2, hv1', decide_true, Bool.true_or, Bool.and_true]
        rfl
  · rfl
end Go.Proofs.Ytacdadfaialbpaa
