/-
  Plain lemmas on these functions. No conditions but those that each states.
-/
import Derived.Test.YtlmpbacboapkaaaFnLayoutsP4
namespace Go.Proofs.Ytlmpbacboapkaaa
set_option linter.unusedVariables false
set_option linter.unusedSimpArgs false
/-! Keys: what is found. -/
def isL (s : Str) : Bool := match s with
  | [c] => decide (33 ≤ c.toNat) && decide (c.toNat ≤ 126)
  | _ => false
theorem s_letter (s : Str) : s_l02Letter s = some (isL s) := by
  unfold s_l02Letter isL
  match s with
  | [] => rfl
  | [c] =>
    have h0 : ((([c] : Str).length : Int) == 1) = true := rfl
    have h1 : idx ([c] : Str) 0 = some c := rfl
    simp only [h0, h1, andO_true, Option.bind_some, andO_some]
    refine congrArg some ?_
    show _ = (decide (33 ≤ c.toNat) && decide (c.toNat ≤ 126))
    rw [Bool.eq_iff_iff]
    have e1 : (32 : UInt8).toNat = 32 := rfl
    have e2 : (127 : UInt8).toNat = 127 := rfl
    simp only [Bool.and_eq_true, decide_eq_true_eq, gt_iff_lt, UInt8.lt_iff_toNat_lt, e1, e2, true_and]
    omega
  | c :: d :: r =>
    have h0 : (((c :: d :: r : Str).length : Int) == 1) = false := by simp; omega
    simp only [h0, andO_false, Option.bind_some]
/-- text of letters -/
def isT (s : Str) (low : Nat) : Bool := s.all fun c => decide (low ≤ c.toNat) && decide (c.toNat ≤ 126)
theorem i_text_l1 (s : Str) (low : UInt8) (kj : Option Bool) (hk : kj = some true) (hl : s.length ≤ 1000) : ∀ (n i N : Nat), i + n = s.length → n < N → i_isText_l1 kj s low N (i : Int) = some (isT (s.drop i) low.toNat) := by
  intro n
  induction n with
  | zero =>
    intro i N hi hN
    obtain ⟨N, rfl⟩ := pos_fuel hN
    have hz : ¬ (i : Int) < (s.length : Int) := by omega
    simp only [i_isText_l1, hz, decide_false, cond_false, hk]
    rw [List.drop_eq_nil_of_le (by omega)]; rfl
  | succ n ih =>
    intro i N hi hN
    obtain ⟨N, rfl⟩ := pos_fuel hN
    have hz : (i : Int) < (s.length : Int) := by omega
    simp only [i_isText_l1, hz, decide_true, cond_true]
    rw [idx_lt s i (by omega), w64_nat i (by omega), List.drop_eq_getElem_cons (by omega : i < s.length), ih (i + 1) N (by omega) (by omega)]
    simp only [Option.bind_some, orO_some, isT, List.all_cons]
    have e2 : (126 : UInt8).toNat = 126 := rfl
    have e : (decide (s[i] < low) || decide (s[i] > (126 : UInt8))) = !(decide (low.toNat ≤ s[i].toNat) && decide (s[i].toNat ≤ 126)) := by
      rw [Bool.eq_iff_iff]
      simp only [Bool.or_eq_true, Bool.not_eq_true', Bool.and_eq_false_iff, decide_eq_true_eq, decide_eq_false_iff_not, gt_iff_lt, UInt8.lt_iff_toNat_lt, e2]
      omega
    rw [e]
    cases decide (low.toNat ≤ s[i].toNat) && decide (s[i].toNat ≤ 126) <;> rfl
theorem i_text (s : Str) (low : UInt8) (most : Int) (hl : s.length ≤ 1000) (N : Nat) (hN : 1000 < N) : i_isText N s low most = some (decide ((s.length : Int) ≤ most) && isT s low.toNat) := by
  unfold i_isText
  simp only [withK_eq]
  by_cases h : (s.length : Int) > most
  · have h' : ¬ (s.length : Int) ≤ most := by omega
    simp [h, h']
  · have h' : (s.length : Int) ≤ most := by omega
    simp only [h, h', decide_false, cond_false, decide_true, Bool.true_and]
    exact i_text_l1 s low _ rfl hl s.length 0 N (by omega) (by omega)
theorem i_letter (s : Str) (N : Nat) (hN : 1000 < N) : i_isLetter N s = some (isL s) := by
  unfold i_isLetter isL
  match s with
  | [] => rfl
  | [c] =>
    have h0 : ((([c] : Str).length : Int) == 1) = true := rfl
    rw [i_text [c] 33 1 (by simp) N hN]
    simp only [h0, andO_true, Option.bind_some]
    have e1 : (33 : UInt8).toNat = 33 := rfl
    simp [isT, e1]
  | c :: d :: r =>
    have h0 : (((c :: d :: r : Str).length : Int) == 1) = false := by simp; omega
    simp only [h0, andO_false, Option.bind_some]
theorem s_text_l1 (s : Str) (kj : Option Bool) (b : Bool) (hk : kj = some b) (hl : s.length ≤ 1000) : ∀ (n i N : Nat), i + n = s.length → n < N → s_l02Text_l1 kj s N (i : Int) = some (isT (s.drop i) 33 && b) := by
  intro n
  induction n with
  | zero =>
    intro i N hi hN
    obtain ⟨N, rfl⟩ := pos_fuel hN
    have hz : ¬ (i : Int) < (s.length : Int) := by omega
    simp only [s_l02Text_l1, hz, decide_false, cond_false, hk]
    rw [List.drop_eq_nil_of_le (by omega)]; simp [isT]
  | succ n ih =>
    intro i N hi hN
    obtain ⟨N, rfl⟩ := pos_fuel hN
    have hz : (i : Int) < (s.length : Int) := by omega
    simp only [s_l02Text_l1, hz, decide_true, cond_true]
    rw [idx_lt s i (by omega), w64_nat i (by omega), List.drop_eq_getElem_cons (by omega : i < s.length), ih (i + 1) N (by omega) (by omega)]
    simp only [Option.bind_some, orO_some, isT, List.all_cons]
    have e1 : (33 : UInt8).toNat = 33 := rfl
    have e2 : (126 : UInt8).toNat = 126 := rfl
    have e : (decide (s[i] < 33) || decide (s[i] > (126 : UInt8))) = !(decide (33 ≤ s[i].toNat) && decide (s[i].toNat ≤ 126)) := by
      rw [Bool.eq_iff_iff]
      simp only [Bool.or_eq_true, Bool.not_eq_true', Bool.and_eq_false_iff, decide_eq_true_eq, decide_eq_false_iff_not, gt_iff_lt, UInt8.lt_iff_toNat_lt, e2, e1]
      omega
    rw [e]
    cases decide (33 ≤ s[i].toNat) && decide (s[i].toNat ≤ 126) <;> rfl
theorem s_text (s : Str) (hl : s.length ≤ 1000) (N : Nat) (hN : 1000 < N) : s_l02Text N s = some (isT s 33 && decide ((s.length : Int) ≤ 100)) := by
  unfold s_l02Text
  simp only [withK_eq]
  exact s_text_l1 s _ _ rfl hl s.length 0 N (by omega) (by omega)
end Go.Proofs.Ytlmpbacboapkaaa
