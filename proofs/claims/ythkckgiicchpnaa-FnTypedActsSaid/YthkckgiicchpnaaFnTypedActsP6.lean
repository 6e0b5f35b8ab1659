/-
  Plain lemmas on these functions. No conditions but those that each states.
-/
import Derived.Test.YthkckgiicchpnaaFnTypedActsP5
namespace Go.Proofs.Ythkckgiicchpnaa
set_option linter.unusedVariables false
set_option linter.unusedSimpArgs false
/-! What is valid. -/
def okC (c : Carriage) : Bool := decide (c.left ≥ 0) && decide (c.right ≤ 300) && decide (c.left ≤ c.right) && decide (w64 (c.right - c.left) ≥ 20) && (decide (c.bell ≥ c.left) && decide (c.bell ≤ c.right))
theorem okC_i (c : Carriage) : i_ValidCarriage c = some (okC c) := by
  unfold i_ValidCarriage i_between okC
  simp only [andO_some, Option.bind_some]
theorem okC_s (c : Carriage) : s_l04Ok c = some (okC c) := by
  unfold s_l04Ok s_l00In okC
  simp only [andO_some, Option.bind_some]
  congr 1
  rw [Bool.eq_iff_iff]
  simp only [Bool.and_eq_true, decide_eq_true_eq]
  constructor
  · rintro ⟨⟨⟨⟨h1, h2⟩, h3, h4⟩, h5⟩, h6⟩
    exact ⟨⟨⟨⟨h1, h4⟩, h3⟩, h5⟩, h6⟩
  · rintro ⟨⟨⟨⟨h1, h4⟩, h3⟩, h5⟩, h6⟩
    exact ⟨⟨⟨⟨h1, by omega⟩, h3, h4⟩, h5⟩, h6⟩
theorem okC_facts {c : Carriage} (h : okC c = true) : 0 ≤ c.left ∧ c.right ≤ 300 ∧ c.left + 20 ≤ c.right ∧ c.left ≤ c.bell ∧ c.bell ≤ c.right := by
  unfold okC at h
  simp only [Bool.and_eq_true, decide_eq_true_eq] at h
  obtain ⟨⟨⟨⟨h1, h4⟩, h3⟩, h5⟩, h6, h7⟩ := h
  rw [w64_id (by omega) (by omega)] at h5
  omega
def isL : Str → Bool
  | [c] => decide (33 ≤ c) && decide (c ≤ 126)
  | _ => false
theorem u8_ge33 (c : UInt8) : (¬ c < 33) ↔ 33 ≤ c := by rw [UInt8.not_lt]
theorem isL_i (N : Nat) (s : Str) (hN : 5 ≤ N) : i_isLetter N s = some (isL s) := by
  obtain ⟨N, rfl⟩ : ∃ M, N = M + 1 + 1 := ⟨N - 2, by omega⟩
  unfold i_isLetter
  match s with
  | [] => rfl
  | [c] =>
    have e1 : (((([c] : Str).length : Nat) : Int) == 1) = true := rfl
    have e2 : decide (((([c] : Str).length : Nat) : Int) > 1) = false := rfl
    have e3 : decide ((0 : Int) < (([c] : Str).length : Int)) = true := rfl
    have e4 : idx [c] 0 = some c := rfl
    have e5 : w64 (0 + 1) = 1 := rfl
    have e6 : decide ((1 : Int) < (([c] : Str).length : Int)) = false := rfl
    simp only [e1, andO_true, i_isText, e2, cond_false, withK_eq, i_isText_l1, e3, cond_true, e4, Option.bind_some, orO_some, e5, e6]
    show _ = some (decide (33 ≤ c) && decide (c ≤ 126))
    have h1 : decide (c < 33) = !decide (33 ≤ c) := by rw [Bool.eq_iff_iff]; simp
    have h2 : decide (c > 126) = !decide (c ≤ 126) := by rw [Bool.eq_iff_iff]; simp
    rw [h1, h2]
    cases decide (33 ≤ c) <;> cases decide (c ≤ 126) <;> rfl
  | c :: d :: r =>
    have e1 : ((((c :: d :: r : Str).length : Nat) : Int) == 1) = false := by rw [beq_eq_false_iff_ne]; simp; omega
    simp only [e1, andO_false, Option.bind_some]
    rfl
theorem isL_s (s : Str) : s_l02Letter s = some (isL s) := by
  unfold s_l02Letter
  match s with
  | [] => rfl
  | [c] =>
    have e1 : (((([c] : Str).length : Nat) : Int) == 1) = true := rfl
    have e4 : idx [c] 0 = some c := rfl
    simp only [e1, andO_true, e4, Option.bind_some, andO_some]
    show _ = some (decide (33 ≤ c) && decide (c ≤ 126))
    have h1 : decide (c > 32) = decide (33 ≤ c) := by
      rw [decide_eq_decide, gt_iff_lt, UInt8.lt_iff_toNat_lt, UInt8.le_iff_toNat_le]
      show 32 < c.toNat ↔ 33 ≤ c.toNat
      omega
    have h2 : decide (c < 127) = decide (c ≤ 126) := by
      rw [decide_eq_decide, UInt8.lt_iff_toNat_lt, UInt8.le_iff_toNat_le]
      show c.toNat < 127 ↔ c.toNat ≤ 126
      omega
    rw [h1, h2, Bool.true_and]
  | c :: d :: r =>
    have e1 : ((((c :: d :: r : Str).length : Nat) : Int) == 1) = false := by rw [beq_eq_false_iff_ne]; simp; omega
    simp only [e1, andO_false, Option.bind_some]
    rfl
theorem isL_facts {s : Str} (h : isL s = true) : ∃ c, s = [c] ∧ c ≠ 32 ∧ s.length = 1 := by
  match s with
  | [] => cases h
  | [c] =>
    refine ⟨c, rfl, ?_, rfl⟩
    rintro rfl
    exact absurd h (by decide)
  | c :: d :: r => cases h
end Go.Proofs.Ythkckgiicchpnaa
