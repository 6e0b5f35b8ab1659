/-
  Plain lemmas on these functions. No conditions but those that each states.
-/
import Derived.Test.YtimcachjcocjmaaFnDrillSetsP5
namespace Go.Proofs.Ytimcachjcocjmaa
set_option linter.unusedVariables false
set_option linter.unusedSimpArgs false
/-! Chosen drills: the bits of a number. -/
def bits (k n : Nat) : List Nat := (List.range n).filter fun i => k.testBit i
theorem bit_ok : ∀ k : Nat, k < 64 → ∀ i : Nat, i < 6 → (shrO (k : Int) (i : Int)).map (fun q => iand q 1 == 1) = some (k.testBit i) := by decide +kernel
theorem range'_filter (k : Nat) : ∀ (n i : Nat), (List.range' i n).filter (fun j => k.testBit j) = (List.range' i n).filter (fun j => k.testBit j) := fun _ _ => rfl
theorem chosen_l1 (k m : Nat) (hk : k < 64) (hm : m ≤ 6) (kj : List Int → Option (List Int)) : ∀ (n i N : Nat) (l : List Int), i + n = m → n < N → l.length ≤ i → i_chosen_l1 kj (k : Int) (m : Int) N l (i : Int) = kj (l ++ ints ((List.range' i n).filter fun j => k.testBit j)) := by
  intro n
  induction n with
  | zero =>
    intro i N l hi hN h0
    obtain ⟨N, rfl⟩ := pos_fuel hN
    have hz : ¬ (i : Int) < (m : Int) := by omega
    simp only [i_chosen_l1, hz, decide_false, cond_false]
    simp [ints]
  | succ n ih =>
    intro i N l hi hN h0
    obtain ⟨N, rfl⟩ := pos_fuel hN
    have hz : (i : Int) < (m : Int) := by omega
    have hb := bit_ok k hk i (by omega)
    simp only [i_chosen_l1, hz, decide_true, cond_true, withK_eq]
    cases hq : shrO (k : Int) (i : Int) with
    | none => rw [hq] at hb; cases hb
    | some q =>
      rw [hq] at hb
      have hb' : (iand q 1 == 1) = k.testBit i := Option.some.inj hb
      rw [Option.bind_some, hb', w64_nat i (by omega), List.range'_succ]
      cases hbit : k.testBit i
      · simp only [cond_false]
        rw [ih (i + 1) N l (by omega) (by omega) (by omega), List.filter_cons_of_neg (by simp [hbit])]
      · simp only [cond_true]
        rw [app_some _ _ (by unfold LIM; simp; omega), Option.bind_some, ih (i + 1) N _ (by omega) (by omega) (by simp; omega), List.filter_cons_of_pos hbit]
        simp [ints]
theorem chosen_ok (k m : Nat) (hk : k < 64) (hm : m ≤ 6) (N : Nat) (hN : 10 < N) : i_chosen N (k : Int) (m : Int) = some (ints (bits k m)) := by
  unfold i_chosen
  simp only [withK_eq]
  have e := chosen_l1 k m hk hm (fun l => some l) m 0 N [] (by omega) (by omega) (by simp)
  rw [show ((0 : Nat) : Int) = 0 from rfl] at e
  rw [e, List.nil_append, bits, List.range_eq_range']
theorem bits_ix (k m : Nat) (hm : m ≤ 6) : Ix (bits k m) m := by
  refine ⟨?_, fun i hi => ?_⟩
  · have := List.length_filter_le (fun i => k.testBit i) (List.range m)
    rw [List.length_range] at this
    unfold bits; omega
  · exact List.mem_range.1 (List.mem_filter.1 hi).1
/-- every choice of bits is the one of a number -/
theorem bits_all' : ∀ b0 b1 b2 b3 b4 b5 : Bool, ((List.range 64).any fun (k : Nat) => k.testBit 0 == b0 && (k.testBit 1 == b1 && (k.testBit 2 == b2 && (k.testBit 3 == b3 && (k.testBit 4 == b4 && k.testBit 5 == b5))))) = true := by decide +kernel
theorem bits_all (b0 b1 b2 b3 b4 b5 : Bool) : ∃ k ∈ List.range 64, k.testBit 0 = b0 ∧ k.testBit 1 = b1 ∧ k.testBit 2 = b2 ∧ k.testBit 3 = b3 ∧ k.testBit 4 = b4 ∧ k.testBit 5 = b5 := by
  obtain ⟨k, hk, h⟩ := List.any_eq_true.1 (bits_all' b0 b1 b2 b3 b4 b5)
  simp only [Bool.and_eq_true, beq_iff_eq] at h
  exact ⟨k, hk, h⟩
theorem bits_low : ∀ n : Nat, n < 7 → ∀ k : Nat, k < 64 → (∀ i : Nat, i < 6 → n ≤ i → k.testBit i = false) → k < 2 ^ n := by decide +kernel
theorem bits_ex (n : Nat) (hn : n ≤ 6) (p : Nat → Bool) : ∃ k, k < 2 ^ n ∧ k < 64 ∧ bits k n = (List.range n).filter p := by
  let q : Nat → Bool := fun i => p i && decide (i < n)
  obtain ⟨k, hk, h0, h1, h2, h3, h4, h5⟩ := bits_all (q 0) (q 1) (q 2) (q 3) (q 4) (q 5)
  have hk := List.mem_range.1 hk
  have hq : ∀ i < 6, k.testBit i = q i := fun i hi => by
    have : i = 0 ∨ i = 1 ∨ i = 2 ∨ i = 3 ∨ i = 4 ∨ i = 5 := by omega
    rcases this with rfl | rfl | rfl | rfl | rfl | rfl
    · exact h0
    · exact h1
    · exact h2
    · exact h3
    · exact h4
    · exact h5
  refine ⟨k, bits_low n (by omega) k hk (fun i hi hni => ?_), hk, ?_⟩
  · rw [hq i hi]
    have : decide (i < n) = false := decide_eq_false (by omega)
    simp [q, this]
  · unfold bits
    refine List.filter_congr fun i hi => ?_
    have hi := List.mem_range.1 hi
    rw [hq i (by omega)]
    simp [q, hi]
theorem shl_ok : ∀ n : Nat, n < 7 → shlO 1 (n : Int) = some ((2 ^ n : Nat) : Int) := by decide +kernel
/-- two lists of numbers compared -/
theorem cmp_l1 (a b : List Int) (ha : a.length ≤ 100) (kj : Option Int) (hk : ∃ v, kj = some v) : ∀ (n i N : Nat), i + n = a.length → n < N → ∃ v, i_compareNumbers_l1 kj a b N (i : Int) = some v := by
  intro n
  induction n with
  | zero =>
    intro i N hi hN
    obtain ⟨N, rfl⟩ := pos_fuel hN
    have hz : ¬ (i : Int) < (a.length : Int) := by omega
    simp only [i_compareNumbers_l1, hz, decide_false, andO_false, Option.bind_some, cond_false]
    exact hk
  | succ n ih =>
    intro i N hi hN
    obtain ⟨N, rfl⟩ := pos_fuel hN
    have hz : (i : Int) < (a.length : Int) := by omega
    simp only [i_compareNumbers_l1, hz, decide_true, andO_true, Option.bind_some]
    by_cases hb : (i : Int) < (b.length : Int)
    · simp only [hb, decide_true, cond_true]
      rw [idx_lt a i (by omega), idx_lt b i (by omega), w64_nat i (by omega)]
      simp only [Option.bind_some]
      cases decide (a[i]'(by omega) < b[i]'(by omega))
      · cases decide (a[i]'(by omega) > b[i]'(by omega))
        · exact ih (i + 1) N (by omega) (by omega)
        · exact ⟨_, rfl⟩
      · exact ⟨_, rfl⟩
    · simp only [hb, decide_false, cond_false]
      exact hk
theorem cmp_ok (a b : List Int) (ha : a.length ≤ 100) (N : Nat) (hN : 200 < N) : ∃ v, i_compareNumbers N a b = some v := by
  unfold i_compareNumbers
  simp only [withK_eq]
  refine cmp_l1 a b ha _ ?_ a.length 0 N (by omega) (by omega)
  cases decide ((a.length : Int) < (b.length : Int))
  · cases decide ((a.length : Int) > (b.length : Int)) <;> exact ⟨_, rfl⟩
  · exact ⟨_, rfl⟩
/-- a valid choice of indices -/
def RI (l : List Int) (n : Nat) : Prop := l.length ≤ 100 ∧ (∀ i, ∀ h : i < l.length, 0 ≤ l[i] ∧ l[i] < n) ∧ ∀ i, ∀ h : i + 1 < l.length, l[i] < l[i + 1]
theorem areIx_l1 (l : List Int) (n : Nat) (hn : n ≤ 1000) (h : RI l n) (kj : Option Bool) (hk : kj = some true) : ∀ (q i N : Nat), i + q = l.length → q < N → i_areIndices_l1 kj l (n : Int) N (i : Int) = some true := by
  intro q
  induction q with
  | zero =>
    intro i N hi hN
    obtain ⟨N, rfl⟩ := pos_fuel hN
    have hz : ¬ (i : Int) < (l.length : Int) := by omega
    simp only [i_areIndices_l1, hz, decide_false, cond_false, hk]
  | succ q ih =>
    intro i N hi hN
    obtain ⟨N, rfl⟩ := pos_fuel hN
    have hz : (i : Int) < (l.length : Int) := by omega
    have hlt : i < l.length := by omega
    obtain ⟨v1, v2⟩ := h.2.1 i hlt
    have hb : (decide (l[i] ≥ 0) && decide (l[i] ≤ (n : Int) - 1)) = true := by
      have : l[i] ≤ (n : Int) - 1 := by omega
      simp [v1, this]
    have h1 := h.1
    simp only [i_areIndices_l1, hz, decide_true, cond_true, i_between]
    rw [idx_lt l i hlt, w64_id (x := (n : Int) - 1) (by omega) (by omega)]
    simp only [Option.bind_some, andO_some, hb, Bool.not_true, orO_false]
    have hA : (andO (decide ((i : Int) > 0)) ((idx l (w64 ((i : Int) - 1))).bind fun e22 => some (decide (l[i] ≤ e22)))) = some false := by
      by_cases h0 : i = 0
      · subst h0; rfl
      · have hp : decide ((i : Int) > 0) = true := decide_eq_true (by omega)
        have e : w64 ((i : Int) - 1) = ((i - 1 : Nat) : Int) := by rw [w64_id (by omega) (by omega)]; omega
        rw [hp, e, idx_lt l (i - 1) (by omega)]
        have h3 := h.2.2 (i - 1) (by omega)
        have h4 : l[i - 1 + 1]'(by omega) = l[i] := by congr 1; omega
        rw [h4] at h3
        simp only [andO_true, Option.bind_some]
        refine congrArg some (decide_eq_false ?_)
        omega
    rw [hA]
    simp only [Option.bind_some, cond_false]
    rw [w64_nat i (by omega)]
    exact ih (i + 1) N (by omega) (by omega)
theorem areIx_ok (l : List Int) (n : Nat) (hn : n ≤ 1000) (h : RI l n) (N : Nat) (hN : 200 < N) : i_areIndices N l (n : Int) = some true := by
  have h1 := h.1
  unfold i_areIndices
  simp only [withK_eq]
  exact areIx_l1 l n hn h (some true) rfl l.length 0 N (by omega) (by omega)
theorem filter_ri (n : Nat) (hn : n ≤ 100) (p : Nat → Bool) : RI (ints ((List.range n).filter p)) n := by
  have hs : ((List.range n).filter p).Pairwise (· < ·) := List.Pairwise.filter _ List.pairwise_lt_range
  refine ⟨?_, fun i h => ?_, fun i h => ?_⟩
  · rw [ints_len]
    have := List.length_filter_le p (List.range n)
    rw [List.length_range] at this
    omega
  · rw [ints_len] at h
    have hm := List.getElem_mem h
    have := List.mem_range.1 (List.mem_filter.1 hm).1
    simp [ints]
    omega
  · rw [ints_len] at h
    have := List.pairwise_iff_getElem.1 hs i (i + 1) (by omega) h (by omega)
    simp [ints]
    omega
end Go.Proofs.Ytimcachjcocjmaa
