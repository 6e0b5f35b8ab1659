/-
  Plain lemmas on these functions. No conditions but those that each states.
-/
import Derived.Test.YtkjccgkpieakpaaFnRacksP2
namespace Go.Proofs.Ytkjccgkpieakpaa
set_option linter.unusedVariables false
set_option linter.unusedSimpArgs false
def inr (x lo hi : Int) : Bool := decide (x ≥ lo) && decide (x ≤ hi)
theorem s_l00In_eq (x lo hi : Int) : s_l00In x lo hi = some (inr x lo hi) := by simp only [s_l00In, andO_some, inr, Option.bind_some]
theorem i_isColumn_eq (x : Int) : i_isColumn x = some (inr x 0 119) := by simp only [i_isColumn, i_between, andO_some, inr, Option.bind_some]
theorem inr_iff {x lo hi : Int} : inr x lo hi = true ↔ lo ≤ x ∧ x ≤ hi := by simp [inr]
/-- from place i on the stops are right -/
def rgt (l : List Int) (i : Nat) : Prop := ∀ j, i ≤ j → ∀ h : j < l.length, (0 ≤ l[j] ∧ l[j] ≤ 119) ∧ ∀ h0 : 0 < j, l[j - 1]'(by omega) < l[j]
theorem Rack_l1_eq (l : List Int) (ha : l.length ≤ LIM) : ∀ (n i : Nat), i + n = l.length → ∃ t : Bool, (t = true ↔ rgt l i) ∧ ∀ N, n < N →
    s_l00Rises_l1 (some true) l 0 119 N (i : Int) = some t ∧ i_ValidRack_l1 (some true) l N (i : Int) = some t := by
  intro n
  induction n with
  | zero =>
    intro i h1
    have hi : ¬ ((i : Int) < (l.length : Int)) := by omega
    refine ⟨true, ⟨fun _ j hj h => by omega, fun _ => rfl⟩, fun N hN => ?_⟩
    obtain ⟨N, rfl⟩ := pos_fuel hN
    simp [s_l00Rises_l1, i_ValidRack_l1, hi]
  | succ n ih =>
    intro i h1
    have hi : (i : Int) < (l.length : Int) := by omega
    have hn : i < l.length := by omega
    have la := ha
    unfold LIM at la
    obtain ⟨t, h2, h3⟩ := ih (i + 1) (by omega)
    by_cases h0 : 0 < i
    · have e1 : w64 ((i : Int) - 1) = ((i - 1 : Nat) : Int) := by rw [w64_id (by omega) (by omega)]; omega
      have hx := idx_lt l (i - 1) (by omega)
      refine ⟨inr l[i] 0 119 && (decide (l[i - 1] < l[i]) && t), ?_, fun N hN => ?_⟩
      · simp only [Bool.and_eq_true, inr_iff, decide_eq_true_eq, h2]
        constructor
        · rintro ⟨g1, g2, g3⟩ j hj hj2
          by_cases e : j = i
          · subst e; exact ⟨g1, fun _ => g2⟩
          · exact g3 j (by omega) hj2
        · intro g
          exact ⟨(g i (by omega) hn).1, (g i (by omega) hn).2 h0, fun j hj hj2 => g j (by omega) hj2⟩
      · obtain ⟨N, rfl⟩ := pos_fuel (by omega : 0 < N)
        obtain ⟨h4, h5⟩ := h3 N (by omega)
        have g0 : (i : Int) > 0 := by omega
        have c1 : decide (l[i - 1] ≥ l[i]) = !(decide (l[i - 1] < l[i])) := by simp [← Int.not_lt]
        have c2 : decide (l[i] ≤ l[i - 1]) = !(decide (l[i - 1] < l[i])) := by simp [← Int.not_lt]
        simp only [s_l00Rises_l1, i_ValidRack_l1, hi, decide_true, cond_true, idx_lt l i hn, Option.bind_some, s_l00In_eq, i_isColumn_eq, g0, andO_true, e1, hx, orO_some, c1, c2, w64_nat i (by omega), h4, h5]
        cases inr l[i] 0 119 <;> cases decide (l[i - 1] < l[i]) <;> exact ⟨rfl, rfl⟩
    · have : i = 0 := by omega
      subst this
      refine ⟨inr l[0] 0 119 && t, ?_, fun N hN => ?_⟩
      · simp only [Bool.and_eq_true, inr_iff, h2]
        constructor
        · rintro ⟨g1, g3⟩ j hj hj2
          by_cases e : j = 0
          · subst e; exact ⟨g1, fun h => absurd h (by omega)⟩
          · exact g3 j (by omega) hj2
        · intro g
          exact ⟨(g 0 (by omega) hn).1, fun j hj hj2 => g j (by omega) hj2⟩
      · obtain ⟨N, rfl⟩ := pos_fuel (by omega : 0 < N)
        obtain ⟨h4, h5⟩ := h3 N (by omega)
        have g0 : ¬ (((0 : Nat) : Int) > 0) := by omega
        simp only [s_l00Rises_l1, i_ValidRack_l1, hi, decide_true, cond_true, idx_lt l 0 hn, Option.bind_some, s_l00In_eq, i_isColumn_eq, g0, decide_false, andO_false, orO_some, Bool.or_false, w64_nat 0 (by omega), h4, h5]
        cases inr l[0] 0 119 <;> exact ⟨rfl, rfl⟩
def VR (l : List Int) : Prop := l.length ≤ 12 ∧ rgt l 0
theorem Rack_eq (l : List Int) (ha : l.length ≤ LIM) : ∃ t : Bool, (t = true ↔ VR l) ∧ ∀ N, l.length < N → s_l08Ok N l = some t ∧ i_ValidRack N l = some t := by
  obtain ⟨t, h1, h2⟩ := Rack_l1_eq l ha l.length 0 (by omega)
  refine ⟨decide ((l.length : Int) ≤ 12) && t, ?_, fun N hN => ?_⟩
  · simp only [Bool.and_eq_true, decide_eq_true_eq, h1, VR]
    constructor
    · rintro ⟨a, b⟩; exact ⟨by omega, b⟩
    · rintro ⟨a, b⟩; exact ⟨by omega, b⟩
  · obtain ⟨h3, h4⟩ := h2 N hN
    rw [show ((0 : Nat) : Int) = 0 from rfl] at h3 h4
    have e : decide ((l.length : Int) > 12) = !(decide ((l.length : Int) ≤ 12)) := by simp [← Int.not_le]
    simp only [s_l08Ok, s_l00Rises, i_ValidRack, withK_eq, h3, h4, Option.bind_some, andO_some, e]
    cases decide ((l.length : Int) ≤ 12) <;> cases t <;> simp
theorem RackCode_eq (l : List Int) (ha : l.length ≤ LIM) (c : Int) : ∃ r : Int, (r = 0 ↔ (VR l ∧ 0 ≤ c ∧ c ≤ 119)) ∧ ∀ N, l.length < N → s_l08Code N l c = some r ∧ i_rackCode N l c = some r := by
  obtain ⟨t, h1, h2⟩ := Rack_eq l ha
  refine ⟨bif !t then 1 else bif !(inr c 0 119) then 2 else 0, ?_, fun N hN => ?_⟩
  · rw [← h1, ← inr_iff]
    cases t <;> cases inr c 0 119 <;> simp
  · obtain ⟨h3, h4⟩ := h2 N hN
    simp only [s_l08Code, i_rackCode, h3, h4, Option.bind_some, s_l00In_eq, i_isColumn_eq]
    cases t <;> cases inr c 0 119 <;> exact ⟨rfl, rfl⟩
end Go.Proofs.Ytkjccgkpieakpaa
