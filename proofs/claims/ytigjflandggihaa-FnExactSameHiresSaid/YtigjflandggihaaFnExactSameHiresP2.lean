/-
  Plain lemmas on these functions. No conditions but those that each states.
-/
import Derived.Test.YtigjflandggihaaFnExactSameHiresP
namespace Go.Proofs.Ytigjflandggihaa
set_option linter.unusedVariables false
set_option linter.unusedSimpArgs false
theorem w_toHire_eq (x : Hire) : w_toHire x = some x := rfl
theorem w_toHireS_l1_eq (k : (List Hire) → Option (List Hire)) (a : List Hire) (ha : a.length ≤ LIM) : ∀ (n i N : Nat) (l : List Hire), i + n = a.length → l.length = a.length → n < N →
    w_toHireS_l1 k a N l (i : Int) = k (l.take i ++ a.drop i) := by
  intro n
  induction n with
  | zero =>
    intro i N l h1 h2 h3
    obtain ⟨N, rfl⟩ := pos_fuel h3
    have hi : ¬ ((i : Int) < (a.length : Int)) := by omega
    have e1 : l.take i = l := List.take_of_length_le (by omega)
    have e2 : a.drop i = [] := List.drop_of_length_le (by omega)
    simp only [w_toHireS_l1, hi, decide_false, cond_false, e1, e2, List.append_nil]
  | succ n ih =>
    intro i N l h1 h2 h3
    obtain ⟨N, rfl⟩ := pos_fuel h3
    have hi : (i : Int) < (a.length : Int) := by omega
    have hn : i < a.length := by omega
    have hl : i < l.length := by omega
    unfold LIM at ha
    simp only [w_toHireS_l1, hi, decide_true, cond_true, idx_lt a i hn, idx_lt l i hl, Option.bind_some, w_toHire_eq, w64_nat i (by omega), Int.toNat_natCast]
    rw [ih (i + 1) N (l.set i a[i]) (by omega) (by simpa using h2) (by omega), take_set_drop l a i hl hn]
theorem w_toHireS_eq {N : Nat} (a : List Hire) (ha : a.length ≤ LIM) (hN : a.length < N) : w_toHireS N a = some a := by
  unfold w_toHireS
  rw [mk_some _ _ ha]
  simp only [Option.bind_some, withK_eq]
  have h := w_toHireS_l1_eq (fun l => some l) a ha a.length 0 N (List.replicate a.length (Hire.mk 0 0 0)) (by omega) (by simp) hN
  simpa using h
theorem w_eqHire_eq (x : Hire) : w_eqHire x x = some true := by simp [w_eqHire]
theorem w_eqHireS_l1_eq (a : List Hire) (ha : a.length ≤ LIM) : ∀ (n i N : Nat), i + n = a.length → n < N → w_eqHireS_l1 (some true) a a N (i : Int) = some true := by
  intro n
  induction n with
  | zero =>
    intro i N h1 h3
    obtain ⟨N, rfl⟩ := pos_fuel h3
    have hi : ¬ ((i : Int) < (a.length : Int)) := by omega
    simp only [w_eqHireS_l1, hi, decide_false, cond_false]
  | succ n ih =>
    intro i N h1 h3
    obtain ⟨N, rfl⟩ := pos_fuel h3
    have hi : (i : Int) < (a.length : Int) := by omega
    have hn : i < a.length := by omega
    unfold LIM at ha
    simp only [w_eqHireS_l1, hi, decide_true, cond_true, idx_lt a i hn, Option.bind_some, w_eqHire_eq, Bool.not_true, cond_false, w64_nat i (by omega)]
    exact ih (i + 1) N (by omega) (by omega)
theorem w_eqHireS_eq {N : Nat} (a : List Hire) (ha : a.length ≤ LIM) (hN : a.length < N) : w_eqHireS N a a = some true := by
  unfold w_eqHireS
  simp only [bne_self_eq_false, cond_false, withK_eq]
  exact w_eqHireS_l1_eq a ha a.length 0 N (by omega) hN
theorem w_szHireS_eq (a : List Hire) (left : Int) (h0 : 0 ≤ left) (h1 : left ≤ 1048576) (ha : a.length ≤ 9223372036854775807) : w_szHireS a left = some (if left < (a.length : Int) then -1 else left - a.length) := by
  unfold w_szHireS
  rw [w64_id (by omega) (by omega)]
  by_cases h : left < (a.length : Int)
  · have : left - (a.length : Int) < 0 := by omega
    simp [h, this]
  · have : ¬ left - (a.length : Int) < 0 := by omega
    simp [h, this]
theorem SameHires_l1 (a b : List Hire) (hab : a.length = b.length) (ha : a.length ≤ LIM) : ∀ (n i N : Nat), i + n = a.length → n < N →
    ∃ t, s_SameHires_l1 (some true) a b N (i : Int) = some t ∧ i_SameHires_l1 (some true) a b N (i : Int) = some t := by
  intro n
  induction n with
  | zero =>
    intro i N h1 h3
    obtain ⟨N, rfl⟩ := pos_fuel h3
    have hi : ¬ ((i : Int) < (a.length : Int)) := by omega
    exact ⟨true, by simp only [s_SameHires_l1, hi, decide_false, cond_false], by simp only [i_SameHires_l1, hi, decide_false, cond_false]⟩
  | succ n ih =>
    intro i N h1 h3
    obtain ⟨N, rfl⟩ := pos_fuel h3
    have hi : (i : Int) < (a.length : Int) := by omega
    have hn : i < a.length := by omega
    have hb : i < b.length := by omega
    unfold LIM at ha
    obtain ⟨t, h4, h5⟩ := ih (i + 1) N (by omega) (by omega)
    simp only [s_SameHires_l1, i_SameHires_l1, hi, decide_true, cond_true, idx_lt a i hn, idx_lt b i hb, Option.bind_some, w64_nat i (by omega), h4, h5]
    cases Hire.beq a[i] b[i]
    · exact ⟨false, rfl, rfl⟩
    · exact ⟨t, rfl, rfl⟩
theorem SameHires_eq {N : Nat} (a b : List Hire) (ha : a.length ≤ LIM) (hN : a.length < N) : ∃ t, s_SameHires N a b = some t ∧ i_SameHires N a b = some t := by
  unfold s_SameHires i_SameHires
  by_cases h : a.length = b.length
  · obtain ⟨t, h1, h2⟩ := SameHires_l1 a b h ha a.length 0 N (by omega) hN
    refine ⟨t, ?_, ?_⟩
    · simpa [h] using h1
    · simpa [h] using h2
  · have h' : ((a.length : Int) != (b.length : Int)) = true := by simp; omega
    exact ⟨false, by simp [h'], by simp [h']⟩
theorem law_FnExactSameHires (a b : List Hire) (ha : wfL wfHire a) (hb : wfL wfHire b) : ∃ N, w_FnExactSameHires N a b = some true := by
  have ha := ha.1
  have hb := hb.1
  refine ⟨1048578, ?_⟩
  unfold w_FnExactSameHires
  rw [w_szHireS_eq a _ (by omega) (by omega) ha]
  by_cases h1 : (1048576 : Int) < (a.length : Int)
  · simp [h1]
  have h1' : ¬ (1048576 : Int) - (a.length : Int) < 0 := by omega
  simp only [h1, if_false, Option.bind_some, h1', decide_false, cond_false]
  rw [w_szHireS_eq b _ (by omega) (by omega) hb]
  by_cases h2 : (1048576 : Int) - (a.length : Int) < (b.length : Int)
  · simp [h2]
  have h2' : ¬ (1048576 : Int) - (a.length : Int) - (b.length : Int) < 0 := by omega
  have la : a.length ≤ LIM := by unfold LIM; omega
  have lb : b.length ≤ LIM := by unfold LIM; omega
  obtain ⟨t, h3, h4⟩ := SameHires_eq (N := 1048578) a b la (by omega)
  simp only [h2, if_false, Option.bind_some, h2', decide_false, cond_false, w_toHireS_eq a la (by omega : a.length < 1048578), w_toHireS_eq b lb (by omega : b.length < 1048578), h3, h4, w_eqHireS_eq a la (by omega : a.length < 1048578), w_eqHireS_eq b lb (by omega : b.length < 1048578), bne_self_eq_false, Bool.not_true]
end Go.Proofs.Ytigjflandggihaa
