/-
  Plain lemmas on these functions. No conditions but those that each states.
-/
import Derived.Test.YtoojddajhalimaaFnShadesP2
namespace Go.Proofs.Ytoojddajhalimaa
set_option linter.unusedVariables false
set_option linter.unusedSimpArgs false
def inr (x lo hi : Int) : Bool := decide (x ≥ lo) && decide (x ≤ hi)
theorem s_l00In_eq (x lo hi : Int) : s_l00In x lo hi = some (inr x lo hi) := by simp only [s_l00In, andO_some, inr, Option.bind_some]
theorem i_between_eq (x lo hi : Int) : i_between x lo hi = some (inr x lo hi) := by simp only [i_between, andO_some, inr, Option.bind_some]
theorem inr_iff {x lo hi : Int} : inr x lo hi = true ↔ lo ≤ x ∧ x ≤ hi := by simp [inr]
/-- a sign that can be typed -/
def pr (c : UInt8) : Bool := !(decide (c < 32) || decide (c > 126))
theorem isText_l1_eq (s : Str) (ha : s.length ≤ LIM) : ∀ (n i N : Nat), i + n = s.length → n < N → ∀ K, s_l00Text_l1 K s N (i : Int) = (bif (s.drop i).all pr then K else some false) ∧ i_isText_l1 K s 32 N (i : Int) = (bif (s.drop i).all pr then K else some false) := by
  intro n
  induction n with
  | zero =>
    intro i N h1 h3 K
    obtain ⟨N, rfl⟩ := pos_fuel h3
    have hi : ¬ ((i : Int) < (s.length : Int)) := by omega
    have e2 : s.drop i = [] := List.drop_of_length_le (by omega)
    simp [s_l00Text_l1, i_isText_l1, hi, e2]
  | succ n ih =>
    intro i N h1 h3 K
    obtain ⟨N, rfl⟩ := pos_fuel h3
    have hi : (i : Int) < (s.length : Int) := by omega
    have hn : i < s.length := by omega
    unfold LIM at ha
    obtain ⟨h4, h5⟩ := ih (i + 1) N (by omega) (by omega) K
    simp only [s_l00Text_l1, i_isText_l1, hi, decide_true, cond_true, idx_lt s i hn, Option.bind_some, orO_some, w64_nat i (by omega), h4, h5, drop_cons s i hn, List.all_cons]
    have e : pr s[i] = !(decide (s[i] < 32) || decide (s[i] > 126)) := rfl
    rw [e]
    cases (decide (s[i] < 32) || decide (s[i] > 126)) <;> exact ⟨rfl, rfl⟩
def okT (m : Int) (s : Str) : Bool := decide ((s.length : Int) ≤ m) && s.all pr
theorem Text_eq (N : Nat) (s : Str) (m : Int) (ha : s.length ≤ LIM) (hN : s.length < N) : s_l00Text N s m = some (okT m s) ∧ i_isText N s 32 m = some (okT m s) := by
  have h := fun K => isText_l1_eq s ha s.length 0 N (by omega) hN K
  simp only [List.drop_zero] at h
  rw [show ((0 : Nat) : Int) = 0 from rfl] at h
  have e : decide ((s.length : Int) > m) = !(decide ((s.length : Int) ≤ m)) := by simp [← Int.not_le]
  unfold s_l00Text i_isText okT
  simp only [withK_eq, (h _).1, (h _).2, e]
  cases decide ((s.length : Int) ≤ m) <;> cases s.all pr <;> exact ⟨rfl, rfl⟩
theorem okT_iff {m : Int} {s : Str} : okT m s = true ↔ (s.length : Int) ≤ m ∧ ∀ c ∈ s, pr c = true := by
  unfold okT; rw [Bool.and_eq_true, decide_eq_true_eq, List.all_eq_true]
end Go.Proofs.Ytoojddajhalimaa
