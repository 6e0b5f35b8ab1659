/-
  Plain lemmas on these functions. No conditions but those that each states.
-/
import Derived.Test.YtkjccgkpieakpaaFnBoxesP7
namespace Go.Proofs.Ytkjccgkpieakpaa
set_option linter.unusedVariables false
set_option linter.unusedSimpArgs false
theorem low33 (c : UInt8) : (decide (c > 32) && decide (c < 127)) = !(decide (c < 33) || decide (c > 126)) := by
  have h := c.toNat_lt
  rw [Bool.eq_iff_iff]
  simp only [Bool.and_eq_true, decide_eq_true_eq, Bool.not_eq_true', Bool.or_eq_false_iff, decide_eq_false_iff_not, gt_iff_lt, UInt8.lt_iff_toNat_lt]
  have e1 : (32 : UInt8).toNat = 32 := rfl
  have e2 : (127 : UInt8).toNat = 127 := rfl
  have e3 : (33 : UInt8).toNat = 33 := rfl
  have e4 : (126 : UInt8).toNat = 126 := rfl
  omega
theorem Letter_eq (N : Nat) (s : Str) (hN : 3 < N) : ∃ b : Bool, i_isLetter N s = some b ∧ s_l02Letter s = some b ∧ (b = true → ∃ c, s = [c]) := by
  by_cases h : s.length = 1
  · obtain ⟨c, rfl⟩ := List.length_eq_one_iff.1 h
    refine ⟨decide (c > 32) && decide (c < 127), ?_, ?_, fun _ => ⟨c, rfl⟩⟩
    · rw [low33]
      obtain ⟨N, rfl⟩ := pos_fuel (by omega : 0 < N)
      obtain ⟨N, rfl⟩ := pos_fuel (by omega : 0 < N)
      have e0 : idx [c] 0 = some c := rfl
      simp only [i_isLetter, i_isText, i_isText_l1, withK_eq, List.length_cons, List.length_nil, e0, Option.bind_some, orO_some]
      cases (decide (c < 33) || decide (c > 126)) <;> rfl
    · have e0 : idx [c] 0 = some c := rfl
      simp only [s_l02Letter, e0, Option.bind_some, List.length_cons, List.length_nil]
      cases decide (c > 32) <;> cases decide (c < 127) <;> rfl
  · have h' : ((s.length : Int) == 1) = false := by simp; omega
    exact ⟨false, by simp [i_isLetter, h'], by simp [s_l02Letter, h'], fun h => by cases h⟩
theorem Rule_eq (N : Nat) (s : Str) (w : Int) (hN : 200 < N) : ∃ p : Str × Int, i_RuleLine N s w = some p ∧ s_RuleLine N s w = some p ∧ (p.2 = 0 → (p.1.length : Int) = w) := by
  obtain ⟨b, h1, h2, h3⟩ := Letter_eq N s (by omega)
  unfold i_RuleLine s_RuleLine
  simp only [h1, h2, Option.bind_some, isWidth_eq, s_l00In_eq, orO_some]
  cases b
  · exact ⟨([], 2), rfl, rfl, fun h => by simp at h⟩
  · obtain ⟨c, rfl⟩ := h3 rfl
    cases hw : inr w 1 100
    · exact ⟨([], 2), rfl, rfl, fun h => by simp at h⟩
    · have hw := inr_iff.1 hw
      have e1 := repeat_eq N c w (by omega) (by omega) (by omega)
      have e2 := rule_eq N c w (by omega) (by omega) (by omega)
      have e0 : idx [c] 0 = some c := rfl
      refine ⟨(List.replicate w.toNat c, 0), by simp [e1], by simp [e0, e2], fun _ => by simp; omega⟩
theorem f6texts_l1_eq (a : List Str) (ha : a.length ≤ LIM) : ∀ (n i N : Nat), i + n = a.length → n < N → w_f6texts_l1 (some true) a a N (i : Int) = some true := by
  intro n
  induction n with
  | zero =>
    intro i N h1 h3
    obtain ⟨N, rfl⟩ := pos_fuel h3
    have hi : ¬ ((i : Int) < (a.length : Int)) := by omega
    simp only [w_f6texts_l1, hi, decide_false, cond_false]
  | succ n ih =>
    intro i N h1 h3
    obtain ⟨N, rfl⟩ := pos_fuel h3
    have hi : (i : Int) < (a.length : Int) := by omega
    have hn : i < a.length := by omega
    unfold LIM at ha
    simp only [w_f6texts_l1, hi, decide_true, cond_true, idx_lt a i hn, Option.bind_some, bne_self_eq_false, cond_false, w64_nat i (by omega)]
    exact ih (i + 1) N (by omega) (by omega)
theorem f6texts_eq {N : Nat} (a : List Str) (ha : a.length ≤ LIM) (hN : a.length < N) : w_f6texts N a a = some true := by
  unfold w_f6texts
  simp only [bne_self_eq_false, cond_false, withK_eq]
  exact f6texts_l1_eq a ha a.length 0 N (by omega) hN
theorem trim_l1_ok (s : Str) (hs : s.length ≤ 100000) : ∀ n : Nat, n ≤ s.length → ∃ m : Nat, m ≤ n ∧ ∀ N, n < N → ∀ K, w_f6trim_l1 K s N (n : Int) = K (m : Int) := by
  intro n
  induction n with
  | zero =>
    intro _
    refine ⟨0, Nat.le_refl _, fun N hN K => ?_⟩
    obtain ⟨N, rfl⟩ := pos_fuel hN
    simp [w_f6trim_l1]
  | succ n ih =>
    intro h
    obtain ⟨m, h1, h2⟩ := ih (by omega)
    have ew : w64 (((n + 1 : Nat) : Int) - 1) = (n : Int) := by rw [w64_id (by omega) (by omega)]; omega
    have hp : ((n + 1 : Nat) : Int) > 0 := by omega
    cases hc : (s[n]'(by omega) == 32)
    · refine ⟨n + 1, Nat.le_refl _, fun N hN K => ?_⟩
      obtain ⟨N, rfl⟩ := pos_fuel hN
      simp only [w_f6trim_l1, hp, decide_true, andO_true, ew, idx_lt s n (by omega), Option.bind_some, hc, cond_false]
    · refine ⟨m, by omega, fun N hN K => ?_⟩
      obtain ⟨N, rfl⟩ := pos_fuel hN
      simp only [w_f6trim_l1, hp, decide_true, andO_true, ew, idx_lt s n (by omega), Option.bind_some, hc, cond_true]
      exact h2 N (by omega) K
theorem trim_ok (s : Str) : ∃ r : Str, s.length ≤ 100000 → ∀ N, s.length < N → w_f6trim N s = some r := by
  by_cases hs : s.length ≤ 100000
  · obtain ⟨m, h1, h2⟩ := trim_l1_ok s hs s.length (Nat.le_refl _)
    refine ⟨s.take m, fun _ N hN => ?_⟩
    unfold w_f6trim
    simp only [withK_eq]
    rw [h2 N hN, sub_some _ _ _ (by omega) (by omega) (by omega)]
    simp
  · exact ⟨[], fun h => absurd h hs⟩
noncomputable def tr (s : Str) : Str := Classical.choose (trim_ok s)
theorem tr_eq (s : Str) (hs : s.length ≤ 100000) (N : Nat) (hN : s.length < N) : w_f6trim N s = some (tr s) := Classical.choose_spec (trim_ok s) hs N hN
theorem tr_nil : tr [] = [] := by
  have h := tr_eq [] (by simp) 1 (by simp)
  simp [w_f6trim, w_f6trim_l1, sub] at h
  exact h
theorem Bx_l1 (d : List Str × Int × Int) (q : List Str × Int) (hl : q.1.length ≤ 1000) (hw : ∀ e ∈ q.1, (e.length : Int) ≤ d.2.1) (hw2 : d.2.1 ≤ 1000) : ∀ (n i N : Nat) (f : Nat), i + n = q.1.length → n + 1100 < N → f ≤ i → ∀ K, w_FnBoxes_l1 K d q N (f : Int) (i : Int) = K ((f + (q.1.drop i).countP (fun e => tr e != []) : Nat) : Int) := by
  intro n
  induction n with
  | zero =>
    intro i N f h1 h3 h4 K
    obtain ⟨N, rfl⟩ := pos_fuel (by omega : 0 < N)
    have hi : ¬ ((i : Int) < (q.1.length : Int)) := by omega
    have e2 : q.1.drop i = [] := List.drop_of_length_le (by omega)
    simp [w_FnBoxes_l1, hi, e2]
  | succ n ih =>
    intro i N f h1 h3 h4 K
    obtain ⟨N, rfl⟩ := pos_fuel (by omega : 0 < N)
    have hi : (i : Int) < (q.1.length : Int) := by omega
    have hn : i < q.1.length := by omega
    have hle := hw _ (List.getElem_mem hn)
    have n1 : ¬ ((q.1[i].length : Int) > d.2.1) := by omega
    have ht := tr_eq q.1[i] (by omega) N (by omega)
    simp only [w_FnBoxes_l1, hi, decide_true, cond_true, withK_eq, idx_lt q.1 i hn, Option.bind_some, n1, decide_false, cond_false, ht, w64_nat i (by omega), w64_nat f (by omega)]
    rw [ih (i + 1) N (f + 1) (by omega) (by omega) (by omega) K, ih (i + 1) N f (by omega) (by omega) (by omega) K, drop_cons q.1 i hn, List.countP_cons]
    cases (tr q.1[i] != []) with
    | false => simp
    | true => simp; congr 1; omega
theorem Bx_l2 (K : Option Bool) (d q : List Str × Int) (h : Int) (hd : d.1.length ≤ 1000) (hh0 : 0 ≤ h) (hh1 : h ≤ 1000) (hl : ∀ e ∈ d.1, (e.length : Int) + h ≤ d.2) (hw : d.2 ≤ 1000) (hq : q.1 = d.1.map (mov h)) : ∀ (n i N : Nat), i + n = d.1.length → n < N → w_FnBoxes_l2 K d q N (i : Int) = K := by
  have hlen : q.1.length = d.1.length := by rw [hq]; simp
  have hdiff : ∀ j (h1 : j < q.1.length) (h2 : j < d.1.length), (q.1[j].length : Int) = d.1[j].length + h := by
    intro j h1 h2
    have : q.1[j] = mov h d.1[j] := by simp [hq]
    rw [this]; unfold mov; simp; omega
  intro n
  induction n with
  | zero =>
    intro i N h1 h3
    obtain ⟨N, rfl⟩ := pos_fuel h3
    have hi : ¬ ((i : Int) < (q.1.length : Int)) := by omega
    simp only [w_FnBoxes_l2, hi, decide_false, cond_false]
  | succ n ih =>
    intro i N h1 h3
    obtain ⟨N, rfl⟩ := pos_fuel h3
    have hi : (i : Int) < (q.1.length : Int) := by omega
    have hn : i < q.1.length := by omega
    have hn' : i < d.1.length := by omega
    have d0 := hdiff 0 (by omega) (by omega)
    have di := hdiff i hn hn'
    have le0 := hl _ (List.getElem_mem (by omega : 0 < d.1.length))
    have lei := hl _ (List.getElem_mem hn')
    have i0 := idx_lt q.1 0 (by omega)
    have j0 := idx_lt d.1 0 (by omega)
    rw [show ((0 : Nat) : Int) = 0 from rfl] at i0 j0
    have w1 : w64 ((q.1[i].length : Int) - d.1[i].length) = h := by rw [di, w64_id (by omega) (by omega)]; omega
    have w2 : w64 (((q.1[0]'(by omega)).length : Int) - (d.1[0]'(by omega)).length) = h := by rw [d0, w64_id (by omega) (by omega)]; omega
    have n1 : ¬ ((q.1[i].length : Int) > d.2) := by omega
    simp only [w_FnBoxes_l2, hi, decide_true, cond_true, idx_lt q.1 i hn, idx_lt d.1 i hn', i0, j0, Option.bind_some, w1, w2, bne_self_eq_false, n1, decide_false, orO_false, cond_false, w64_nat i (by omega)]
    exact ih (i + 1) N (by omega) (by omega)
theorem Bx_l3 (K : Option Bool) (q : List Str × Int) (c : Int) (hd : q.1.length ≤ 10000) (hl : ∀ e ∈ q.1, (e.length : Int) = c) : ∀ (n i N : Nat), i + n = q.1.length → n < N → w_FnBoxes_l3 K q N (i : Int) = K := by
  intro n
  induction n with
  | zero =>
    intro i N h1 h3
    obtain ⟨N, rfl⟩ := pos_fuel h3
    have hi : ¬ ((i : Int) < (q.1.length : Int)) := by omega
    simp only [w_FnBoxes_l3, hi, decide_false, cond_false]
  | succ n ih =>
    intro i N h1 h3
    obtain ⟨N, rfl⟩ := pos_fuel h3
    have hi : (i : Int) < (q.1.length : Int) := by omega
    have hn : i < q.1.length := by omega
    have le0 := hl _ (List.getElem_mem (by omega : 0 < q.1.length))
    have lei := hl _ (List.getElem_mem hn)
    have i0 := idx_lt q.1 0 (by omega)
    rw [show ((0 : Nat) : Int) = 0 from rfl] at i0
    simp only [w_FnBoxes_l3, hi, decide_true, cond_true, idx_lt q.1 i hn, i0, Option.bind_some, le0, lei, bne_self_eq_false, cond_false, w64_nat i (by omega)]
    exact ih (i + 1) N (by omega) (by omega)
end Go.Proofs.Ytkjccgkpieakpaa
