/-
  Plain lemmas on these functions. No conditions but those that each states.
-/
import Derived.Test.YtkjccgkpieakpaaFnBoxesP
namespace Go.Proofs.Ytkjccgkpieakpaa
set_option linter.unusedVariables false
set_option linter.unusedSimpArgs false
def inr (x lo hi : Int) : Bool := decide (x ≥ lo) && decide (x ≤ hi)
theorem s_l00In_eq (x lo hi : Int) : s_l00In x lo hi = some (inr x lo hi) := by simp only [s_l00In, andO_some, inr, Option.bind_some]
theorem i_between_eq (x lo hi : Int) : i_between x lo hi = some (inr x lo hi) := by simp only [i_between, andO_some, inr, Option.bind_some]
theorem inr_iff {x lo hi : Int} : inr x lo hi = true ↔ lo ≤ x ∧ x ≤ hi := by simp [inr]
theorem repeat_l1_eq (c : UInt8) (m : Nat) (hm : m ≤ 1000000) : ∀ (n i N : Nat) (o : List UInt8), i + n = m → n < N → o.length = i → ∀ K, i_repeat_l1 K [c] (m : Int) N o (i : Int) = K (o ++ List.replicate n c) := by
  intro n
  induction n with
  | zero =>
    intro i N o h1 h2 h3 K
    obtain ⟨N, rfl⟩ := pos_fuel h2
    have hi : ¬ ((i : Int) < imax (m : Int) 0) := by unfold imax; rw [if_neg (by omega)]; omega
    simp [i_repeat_l1, hi]
  | succ n ih =>
    intro i N o h1 h2 h3 K
    obtain ⟨N, rfl⟩ := pos_fuel h2
    have hi : (i : Int) < imax (m : Int) 0 := by unfold imax; rw [if_neg (by omega)]; omega
    have ea : app o [c] = some (o ++ [c]) := app_some _ _ (by simp; unfold LIM; omega)
    simp only [i_repeat_l1, hi, decide_true, cond_true, ea, Option.bind_some, w64_nat i (by omega)]
    rw [ih (i + 1) N (o ++ [c]) (by omega) (by omega) (by simp; omega) K]
    simp [List.replicate_succ]
theorem repeat_eq (N : Nat) (c : UInt8) (x : Int) (hx : x ≤ 1000000) (hN : x < N) (hN0 : 0 < N) : i_repeat N [c] x = some (List.replicate x.toNat c) := by
  unfold i_repeat
  simp only [withK_eq]
  by_cases h : 0 ≤ x
  · obtain ⟨m, rfl⟩ := Int.eq_ofNat_of_zero_le h
    have := repeat_l1_eq c m (by omega) m 0 N [] (by omega) (by omega) rfl (fun l => some l)
    rw [show ((0 : Nat) : Int) = 0 from rfl] at this
    rw [this]; simp
  · obtain ⟨N, rfl⟩ := pos_fuel hN0
    have hi : ¬ ((0 : Int) < imax x 0) := by unfold imax; rw [if_pos (by omega)]; omega
    have : x.toNat = 0 := by omega
    simp [i_repeat_l1, hi, this]
theorem rule_l1_eq (c : UInt8) (x : Int) (hx : x ≤ 1000000) : ∀ (n i N : Nat) (o : List UInt8), (x - i).toNat = n → n < N → o.length = i → i ≤ 1000000 → ∀ K, s_l10Rule_l1 K c x N o (i : Int) = K (o ++ List.replicate n c) := by
  intro n
  induction n with
  | zero =>
    intro i N o h1 h2 h3 h4 K
    obtain ⟨N, rfl⟩ := pos_fuel h2
    have hi : ¬ ((i : Int) < x) := by omega
    simp [s_l10Rule_l1, hi]
  | succ n ih =>
    intro i N o h1 h2 h3 h4 K
    obtain ⟨N, rfl⟩ := pos_fuel h2
    have hi : (i : Int) < x := by omega
    have ea : app o [c] = some (o ++ [c]) := app_some _ _ (by simp; unfold LIM; omega)
    simp only [s_l10Rule_l1, hi, decide_true, cond_true, ea, Option.bind_some, w64_nat i (by omega)]
    rw [ih (i + 1) N (o ++ [c]) (by omega) (by omega) (by simp; omega) (by omega) K]
    simp [List.replicate_succ]
theorem rule_eq (N : Nat) (c : UInt8) (x : Int) (hx : x ≤ 1000000) (hN : x < N) (hN0 : 0 < N) : s_l10Rule N c x = some (List.replicate x.toNat c) := by
  unfold s_l10Rule
  have := rule_l1_eq c x hx x.toNat 0 N [] (by simp) (by omega) rfl (by omega) (fun l => some l)
  simpa using this
theorem blanks_l1_eq (x : Int) (hx : x ≤ 1000000) : ∀ (n i N : Nat) (o : List UInt8), (x - i).toNat = n → n < N → o.length = i → i ≤ 1000000 → ∀ K, s_l08Blanks_l1 K x N o (i : Int) = K (o ++ List.replicate n 32) := by
  intro n
  induction n with
  | zero =>
    intro i N o h1 h2 h3 h4 K
    obtain ⟨N, rfl⟩ := pos_fuel h2
    have hi : ¬ ((i : Int) < x) := by omega
    simp [s_l08Blanks_l1, hi]
  | succ n ih =>
    intro i N o h1 h2 h3 h4 K
    obtain ⟨N, rfl⟩ := pos_fuel h2
    have hi : (i : Int) < x := by omega
    have ea : app o [32] = some (o ++ [32]) := app_some _ _ (by simp; unfold LIM; omega)
    simp only [s_l08Blanks_l1, hi, decide_true, cond_true, ea, Option.bind_some, w64_nat i (by omega)]
    rw [ih (i + 1) N (o ++ [32]) (by omega) (by omega) (by simp; omega) (by omega) K]
    simp [List.replicate_succ]
theorem blanks_eq (N : Nat) (x : Int) (hx : x ≤ 1000000) (hN : x < N) (hN0 : 0 < N) : s_l08Blanks N x = some (List.replicate x.toNat 32) := by
  unfold s_l08Blanks
  have := blanks_l1_eq x hx x.toNat 0 N [] (by simp) (by omega) rfl (by omega) (fun l => some l)
  simpa using this
/-- a sign that can be typed -/
def pr (c : UInt8) : Bool := !(decide (c < 32) || decide (c > 126))
theorem isText_l1_eq (s : Str) (ha : s.length ≤ LIM) : ∀ (n i N : Nat), i + n = s.length → n < N → ∀ K, s_l00Text_l1 K s N (i : Int) = (bif (s.drop i).all pr then K else some false) ∧ i_isText_l1 K s 32 N (i : Int) = (bif (s.drop i).all pr then K else some false) := by
  intro n
  induction n with
  | zero =>
    intro i N h1 h3 K
    obtain ⟨N, rfl⟩ := pos_fuel h3
    have hi : ¬ ((i : Int) < (s.length : Int)) := by omega
    have e2 : s.drop i = [] := List.drop_of_length_le (by omega)
    simp [s_l00Text_l1, i_isText_l1, hi, e2]
  | succ n ih =>
    intro i N h1 h3 K
    obtain ⟨N, rfl⟩ := pos_fuel h3
    have hi : (i : Int) < (s.length : Int) := by omega
    have hn : i < s.length := by omega
    unfold LIM at ha
    obtain ⟨h4, h5⟩ := ih (i + 1) N (by omega) (by omega) K
    simp only [s_l00Text_l1, i_isText_l1, hi, decide_true, cond_true, idx_lt s i hn, Option.bind_some, orO_some, w64_nat i (by omega), h4, h5, drop_cons s i hn, List.all_cons]
    have e : pr s[i] = !(decide (s[i] < 32) || decide (s[i] > 126)) := rfl
    rw [e]
    cases (decide (s[i] < 32) || decide (s[i] > 126)) <;> exact ⟨rfl, rfl⟩
def okT (s : Str) : Bool := decide ((s.length : Int) ≤ 100) && s.all pr
theorem Text_eq (N : Nat) (s : Str) (ha : s.length ≤ LIM) (hN : s.length < N) : s_l00Text N s 100 = some (okT s) ∧ i_isText N s 32 100 = some (okT s) := by
  have h := fun K => isText_l1_eq s ha s.length 0 N (by omega) hN K
  simp only [List.drop_zero] at h
  rw [show ((0 : Nat) : Int) = 0 from rfl] at h
  have e : decide ((s.length : Int) > 100) = !(decide ((s.length : Int) ≤ 100)) := by simp [← Int.not_le]
  unfold s_l00Text i_isText okT
  simp only [withK_eq, (h _).1, (h _).2, e]
  cases decide ((s.length : Int) ≤ 100) <;> cases s.all pr <;> exact ⟨rfl, rfl⟩
/-- no blank at an end -/
def okE (s : Str) : Bool := match s with
  | [] => true
  | x :: t => x != 32 && (x :: t).getLast (by simp) != 32
def okS (s : Str) : Bool := okT s && okE s
theorem okT_len {s : Str} (h : okT s = true) : s.length ≤ 100 := by
  unfold okT at h
  rw [Bool.and_eq_true, decide_eq_true_eq] at h
  omega
theorem okS_len {s : Str} (h : okS s = true) : s.length ≤ 100 := by
  unfold okS at h
  rw [Bool.and_eq_true] at h
  exact okT_len h.1
theorem Setting_eq (N : Nat) (s : Str) (ha : s.length ≤ LIM) (hN : s.length < N) : s_l10Text N s = some (okS s) ∧ i_isSetting N s = some (okS s) := by
  obtain ⟨h1, h2⟩ := Text_eq N s ha hN
  unfold LIM at ha
  unfold s_l10Text i_isSetting okS
  simp only [h1, h2, Option.bind_some]
  cases hs : s with
  | nil => cases okT [] <;> exact ⟨rfl, rfl⟩
  | cons x t =>
    have e0 : idx (x :: t) 0 = some x := rfl
    have hl : w64 (((x :: t).length : Int) - 1) = (t.length : Int) := by rw [hs, List.length_cons] at ha; rw [List.length_cons, w64_id (by omega) (by omega)]; omega
    have e1 : idx (x :: t) (t.length : Int) = some ((x :: t).getLast (by simp)) := by
      rw [idx_lt (x :: t) t.length (by simp), List.getLast_eq_getElem]; rfl
    have e2 : (((x :: t).length : Int) == 0) = false := by simp; omega
    have e3 : ((x :: t) == ([] : List UInt8)) = false := rfl
    simp only [e0, hl, e1, e2, e3, Option.bind_some, andO_some, orO_false, okE]
    cases okT (x :: t) <;> cases (x != 32 && (x :: t).getLast (by simp) != 32) <;> simp
end Go.Proofs.Ytkjccgkpieakpaa
