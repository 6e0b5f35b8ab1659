/-
  Plain lemmas on these functions. No conditions but those that each states.
-/
import Derived.Test.YthkckgiicchpnaaFnCarriageLinesP6
namespace Go.Proofs.Ythkckgiicchpnaa
set_option linter.unusedVariables false
set_option linter.unusedSimpArgs false
/-! What stands on a line. -/
def okE (e : Struck) : Bool := decide (e.place ≥ 0) && decide (e.place ≤ 300) && isL e.letter
def okS (l : List Struck) : Bool := l.all okE && decide ((l.length : Int) ≤ 200)
theorem okS_i (N : Nat) (l : List Struck) (hl : l.length ≤ 1000) (hN : l.length + 20 ≤ N) : i_validStruck N l = some (okS l) := by
  have loop : ∀ (K : Option Bool) (n i N : Nat), i + n = l.length → n + 10 ≤ N → i_validStruck_l1 K l N (i : Int) = if (l.drop i).all okE then K else some false := by
    intro K n
    induction n with
    | zero =>
      intro i N h1 h2
      obtain ⟨N, rfl⟩ := pos_fuel (show 0 < N by omega)
      have hi : ¬ ((i : Int) < (l.length : Int)) := by omega
      rw [List.drop_of_length_le (by omega)]
      simp only [i_validStruck_l1, hi, decide_false, cond_false, List.all_nil, if_true]
    | succ n ih =>
      intro i N h1 h2
      obtain ⟨N, rfl⟩ := pos_fuel (show 0 < N by omega)
      have hi : (i : Int) < (l.length : Int) := by omega
      have hil : i < l.length := by omega
      rw [List.drop_eq_getElem_cons hil, List.all_cons]
      simp only [i_validStruck_l1, hi, decide_true, cond_true, idx_lt l i hil, Option.bind_some, i_between, andO_some, isL_i N _ (show 5 ≤ N by omega), orO_some, w64_nat i (by omega), ih (i + 1) N (by omega) (by omega)]
      unfold okE
      cases decide (l[i].place ≥ 0) <;> cases decide (l[i].place ≤ 300) <;> cases isL l[i].letter <;> simp
  unfold i_validStruck okS
  by_cases h : (l.length : Int) > 200
  · have : ¬ (l.length : Int) ≤ 200 := by omega
    simp [h, this]
  · have h' : (l.length : Int) ≤ 200 := by omega
    have := loop (some true) l.length 0 N (by omega) (by omega)
    rw [show ((0 : Nat) : Int) = 0 from rfl, List.drop_zero] at this
    simp only [h, decide_false, cond_false, withK_eq, this, h', decide_true, Bool.and_true]
    cases l.all okE <;> rfl
theorem okS_s (N : Nat) (l : List Struck) (hl : l.length ≤ 1000) (hN : l.length + 20 ≤ N) : s_l04Struck N l = some (okS l) := by
  have loop : ∀ (K : Option Bool) (n i N : Nat), i + n = l.length → n + 10 ≤ N → s_l04Struck_l1 K l N (i : Int) = if (l.drop i).all okE then K else some false := by
    intro K n
    induction n with
    | zero =>
      intro i N h1 h2
      obtain ⟨N, rfl⟩ := pos_fuel (show 0 < N by omega)
      have hi : ¬ ((i : Int) < (l.length : Int)) := by omega
      rw [List.drop_of_length_le (by omega)]
      simp only [s_l04Struck_l1, hi, decide_false, cond_false, List.all_nil, if_true]
    | succ n ih =>
      intro i N h1 h2
      obtain ⟨N, rfl⟩ := pos_fuel (show 0 < N by omega)
      have hi : (i : Int) < (l.length : Int) := by omega
      have hil : i < l.length := by omega
      rw [List.drop_eq_getElem_cons hil, List.all_cons]
      simp only [s_l04Struck_l1, hi, decide_true, cond_true, idx_lt l i hil, Option.bind_some, s_l00In, andO_some, isL_s, orO_some, w64_nat i (by omega), ih (i + 1) N (by omega) (by omega)]
      unfold okE
      cases decide (l[i].place ≥ 0) <;> cases decide (l[i].place ≤ 300) <;> cases isL l[i].letter <;> simp
  unfold s_l04Struck okS
  have := loop (some (decide ((l.length : Int) ≤ 200))) l.length 0 N (by omega) (by omega)
  rw [show ((0 : Nat) : Int) = 0 from rfl, List.drop_zero] at this
  simp only [withK_eq, this]
  cases l.all okE <;> simp
theorem okS_facts {l : List Struck} (h : okS l = true) : l.length ≤ 200 ∧ ∀ i, ∀ h : i < l.length, 0 ≤ l[i].place ∧ l[i].place ≤ 300 ∧ isL l[i].letter = true := by
  unfold okS at h
  simp only [Bool.and_eq_true, List.all_eq_true, decide_eq_true_eq] at h
  refine ⟨by omega, fun i hi => ?_⟩
  have := h.1 _ (List.getElem_mem hi)
  unfold okE at this
  simp only [Bool.and_eq_true, decide_eq_true_eq] at this
  exact ⟨this.1.1, this.1.2, this.2⟩
/-! both lines -/
theorem Line_l2 (kj : Str → Option (Str × Int)) (c : Carriage) (e : Struck) : ∀ (N : Nat) (l : Str), s_LineOf_l2 kj c e N l = i_LineOf_l2 kj c e N l := by
  intro N
  induction N with
  | zero => intro l; rfl
  | succ N ih =>
    intro l
    simp only [s_LineOf_l2, i_LineOf_l2]
    cases decide ((l.length : Int) ≤ w64 (Int.tdiv (w64 (e.place - c.left)) 2))
    · rfl
    · simp only [cond_true]
      cases app l [32] with
      | none => rfl
      | some x => simp only [Option.bind_some, ih]
theorem Line_l1 (kj : Str → Option (Str × Int)) (c : Carriage) (x : List Struck) : ∀ (N : Nat) (l : Str) (i : Int), s_LineOf_l1 kj c x N l i = i_LineOf_l1 kj c x N l i := by
  intro N
  induction N with
  | zero => intro l i; rfl
  | succ N ih =>
    intro l i
    simp only [s_LineOf_l1, i_LineOf_l1, withK_eq, Line_l2]
    cases decide (i < (x.length : Int))
    · rfl
    · simp only [cond_true]
      cases idx x i with
      | none => rfl
      | some e => simp only [Option.bind_some, ih]
theorem Line_eq (N : Nat) (c : Carriage) (x : List Struck) (hl : x.length ≤ 1000) (hN : x.length + 20 ≤ N) : s_LineOf N c x = i_LineOf N c x := by
  unfold s_LineOf i_LineOf
  simp only [okC_i, okC_s, okS_i N x hl hN, okS_s N x hl hN, withK_eq, Line_l1]
theorem Half_eq (N : Nat) (c : Carriage) (x : List Struck) (hl : x.length ≤ 1000) (hN : x.length + 20 ≤ N) : s_HalfShifted N c x = i_HalfShifted N c x := by
  have loop : ∀ (K : Option (Bool × Int)) (N : Nat) (i : Int), s_HalfShifted_l1 K c x N i = i_HalfShifted_l1 K c x N i := by
    intro K N
    induction N with
    | zero => intro i; rfl
    | succ N ih => intro i; simp only [s_HalfShifted_l1, i_HalfShifted_l1, ih]
  unfold s_HalfShifted i_HalfShifted
  simp only [okC_i, okC_s, okS_i N x hl hN, okS_s N x hl hN, withK_eq, loop]
theorem Same_eq (N : Nat) (a b : List Struck) : s_SameStruck N a b = i_SameStruck N a b := by
  have loop : ∀ (K : Option Bool) (N : Nat) (i : Int), s_SameStruck_l1 K a b N i = i_SameStruck_l1 K a b N i := by
    intro K N
    induction N with
    | zero => intro i; rfl
    | succ N ih => intro i; simp only [s_SameStruck_l1, i_SameStruck_l1, ih]
  unfold s_SameStruck i_SameStruck
  simp only [withK_eq, loop]
theorem Same_some (N : Nat) (a b : List Struck) (hl : a.length ≤ 1000) (hN : a.length < N) : ∃ r, i_SameStruck N a b = some r := by
  by_cases h : a.length = b.length
  · have loop : ∀ (n i N : Nat), i + n = a.length → n < N → ∃ r, i_SameStruck_l1 (some true) a b N (i : Int) = some r := by
      intro n
      induction n with
      | zero =>
        intro i N h1 h2
        obtain ⟨N, rfl⟩ := pos_fuel h2
        have hi : ¬ ((i : Int) < (a.length : Int)) := by omega
        exact ⟨true, by simp only [i_SameStruck_l1, hi, decide_false, cond_false]⟩
      | succ n ih =>
        intro i N h1 h2
        obtain ⟨N, rfl⟩ := pos_fuel h2
        have hi : (i : Int) < (a.length : Int) := by omega
        obtain ⟨r, hr⟩ := ih (i + 1) N (by omega) (by omega)
        simp only [i_SameStruck_l1, hi, decide_true, cond_true, idx_lt a i (by omega), idx_lt b i (by omega), Option.bind_some, w64_nat i (by omega), hr]
        cases !(Struck.beq a[i] (b[i]'(by omega)))
        · exact ⟨r, rfl⟩
        · exact ⟨false, rfl⟩
    obtain ⟨r, hr⟩ := loop a.length 0 N (by omega) hN
    rw [show ((0 : Nat) : Int) = 0 from rfl] at hr
    have hb : ((a.length : Int) != (b.length : Int)) = false := by rw [h]; simp
    exact ⟨r, by unfold i_SameStruck; simp only [hb, cond_false, withK_eq, hr]⟩
  · have hb : ((a.length : Int) != (b.length : Int)) = true := by simp; omega
    exact ⟨false, by unfold i_SameStruck; simp only [hb, cond_true]⟩
end Go.Proofs.Ythkckgiicchpnaa
