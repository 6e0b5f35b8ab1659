/-
  Plain lemmas on these functions. No conditions but those that each states.
-/
import Derived.Test.YtikkolkickclhaaDoorFnRankingsP3
namespace Go.Proofs.YtikkolkickclhaaDoor
set_option linter.unusedVariables false
set_option linter.unusedSimpArgs false
theorem mget_mset (l : List (Str × Bool)) (k s : Str) : mget (mset l k true) s = (s == k || mget l s) := by
  induction l with
  | nil => simp only [mset, mget]; cases s == k <;> rfl
  | cons p r ih =>
    obtain ⟨a, b⟩ := p
    simp only [mset]
    by_cases h : k = a
    · subst h; simp only [beq_self_eq_true, cond_true, mget]; cases s == k <;> rfl
    · have : (k == a) = false := by simpa using h
      simp only [this, cond_false, mget]
      by_cases h2 : s = a
      · subst h2
        have : (s == k) = false := by simp; exact fun e => h e.symm
        simp [this]
      · have : (s == a) = false := by simpa using h2
        simp only [this, cond_false]; exact ih
def sml (c : UInt8) : Bool := decide (c ≥ 97) && decide (c ≤ 122)
def dig (c : UInt8) : Bool := decide (c ≥ 48) && decide (c ≤ 57)
def okc (c : UInt8) : Bool := sml c || (dig c || c == 45)
def nm (s : Str) : Bool := match s with
  | [] => false
  | c :: r => decide (r.length < 12) && (sml c && r.all okc)
theorem s_l01Small_eq (c : UInt8) : s_l01Small c = some (sml c) := by simp only [s_l01Small, andO_some, sml, Option.bind_some]
theorem s_l01Digit_eq (c : UInt8) : s_l01Digit c = some (dig c) := by simp only [s_l01Digit, andO_some, dig, Option.bind_some]
theorem i_isDigit_eq (c : UInt8) : i_isDigit c = some (dig c) := by simp only [i_isDigit, andO_some, dig, Option.bind_some]
theorem s_IsName_l1_eq (k : Option Bool) (s : Str) (ha : s.length ≤ LIM) : ∀ (n i N : Nat), i + n = s.length → n < N → s_IsName_l1 k s N (i : Int) = bif (s.drop i).all okc then k else some false := by
  intro n
  induction n with
  | zero =>
    intro i N h1 h3
    obtain ⟨N, rfl⟩ := pos_fuel h3
    have hi : ¬ ((i : Int) < (s.length : Int)) := by omega
    have e2 : s.drop i = [] := List.drop_of_length_le (by omega)
    simp only [s_IsName_l1, hi, decide_false, cond_false, e2, List.all_nil, cond_true]
  | succ n ih =>
    intro i N h1 h3
    obtain ⟨N, rfl⟩ := pos_fuel h3
    have hi : (i : Int) < (s.length : Int) := by omega
    have hn : i < s.length := by omega
    unfold LIM at ha
    simp only [s_IsName_l1, hi, decide_true, cond_true, idx_lt s i hn, Option.bind_some, s_l01Small_eq, s_l01Digit_eq, andO_some, w64_nat i (by omega), ih (i + 1) N (by omega) (by omega), drop_cons s i hn, List.all_cons, okc, bne]
    cases sml s[i] <;> cases dig s[i] <;> cases (s[i] == 45) <;> rfl
theorem i_IsName_l1_eq (k : Option Bool) (s : Str) (ha : s.length ≤ LIM) : ∀ (n i N : Nat), i + n = s.length → n < N → 0 < i → i_IsName_l1 k s N (i : Int) = bif (s.drop i).all okc then k else some false := by
  intro n
  induction n with
  | zero =>
    intro i N h1 h3 h0
    obtain ⟨N, rfl⟩ := pos_fuel h3
    have hi : ¬ ((i : Int) < (s.length : Int)) := by omega
    have e2 : s.drop i = [] := List.drop_of_length_le (by omega)
    simp only [i_IsName_l1, hi, decide_false, cond_false, e2, List.all_nil, cond_true]
  | succ n ih =>
    intro i N h1 h3 h0
    obtain ⟨N, rfl⟩ := pos_fuel h3
    have hi : (i : Int) < (s.length : Int) := by omega
    have hn : i < s.length := by omega
    have hz : ((i : Int) == 0) = false := by simp; omega
    unfold LIM at ha
    simp only [i_IsName_l1, hi, decide_true, cond_true, idx_lt s i hn, Option.bind_some, i_isDigit_eq, andO_some, orO_some, w64_nat i (by omega), ih (i + 1) N (by omega) (by omega) (by omega), drop_cons s i hn, List.all_cons, okc, sml, bne, hz]
    cases decide (s[i] ≥ 97) <;> cases decide (s[i] ≤ 122) <;> cases dig s[i] <;> cases (s[i] == 45) <;> rfl
theorem s_IsName_eq (N : Nat) (hN : 14 < N) (s : Str) : s_IsName N s = some (nm s) := by
  unfold s_IsName
  cases s with
  | nil => rfl
  | cons c r =>
    by_cases h : r.length < 12
    · have h' : ¬ (((c :: r).length : Int) > 12) := by simp; omega
      have e : (c :: r == []) = false := rfl
      have e2 : idx (c :: r) 0 = some c := rfl
      simp only [e, h', e2, orO_some, decide_false, Bool.or_false, Option.bind_some, s_l01Small_eq, Bool.false_or, withK_eq, nm, h, decide_true, Bool.true_and]
      have h0 : s_IsName_l1 (some true) (c :: r) N 0 = _ := s_IsName_l1_eq (some true) (c :: r) (by simp; unfold LIM; omega) (c :: r).length 0 N (by omega) (by simp; omega)
      rw [h0]
      simp only [List.drop_zero, List.all_cons, okc]
      cases sml c <;> cases r.all okc <;> simp
    · have h' : (((c :: r).length : Int) > 12) := by simp; omega
      have e : (c :: r == []) = false := rfl
      simp only [e, h', orO_some, decide_true, Bool.or_true, Option.bind_some, orO_true, cond_true, nm, h, decide_false, Bool.false_and]
theorem i_IsName_eq (N : Nat) (hN : 14 < N) (s : Str) : i_IsName N s = some (nm s) := by
  unfold i_IsName
  cases s with
  | nil => rfl
  | cons c r =>
    by_cases h : r.length < 12
    · have h' : ¬ (((c :: r).length : Int) > 12) := by simp; omega
      have e : (((c :: r).length : Int) == 0) = false := by simp; omega
      have e2 : idx (c :: r) 0 = some c := rfl
      have e3 : (0 : Int) < (((c :: r).length : Nat) : Int) := by simp only [List.length_cons]; omega
      obtain ⟨N, rfl⟩ := pos_fuel hN
      have e4 : w64 (0 + 1) = ((1 : Nat) : Int) := rfl
      have := i_IsName_l1_eq (some true) (c :: r) (by simp; unfold LIM; omega) r.length 1 N (by simp; omega) (by omega) (by omega)
      simp only [e, h', e2, orO_some, decide_false, Bool.or_false, Option.bind_some, Bool.false_or, withK_eq, nm, h, decide_true, Bool.true_and, cond_false, i_IsName_l1, e3, cond_true, andO_some, orO_true, beq_self_eq_true, Bool.and_true, e4, this, List.drop_one, List.tail_cons]
      show (bif !(sml c) then _ else _) = _
      cases sml c <;> cases r.all okc <;> rfl
    · have h' : (((c :: r).length : Int) > 12) := by simp; omega
      have e : (((c :: r).length : Int) == 0) = false := by simp; omega
      simp only [e, h', orO_some, decide_true, Bool.or_true, Option.bind_some, orO_true, cond_true, nm, h, decide_false, Bool.false_and]
def inr (x lo hi : Int) : Bool := decide (x ≥ lo) && decide (x ≤ hi)
theorem s_l00In_eq (x lo hi : Int) : s_l00In x lo hi = some (inr x lo hi) := by simp only [s_l00In, andO_some, inr, Option.bind_some]
theorem i_between_eq (x lo hi : Int) : i_between x lo hi = some (inr x lo hi) := by simp only [i_between, andO_some, inr, Option.bind_some]
theorem inr_iff {x lo hi : Int} : inr x lo hi = true ↔ lo ≤ x ∧ x ≤ hi := by simp [inr]
end Go.Proofs.YtikkolkickclhaaDoor
