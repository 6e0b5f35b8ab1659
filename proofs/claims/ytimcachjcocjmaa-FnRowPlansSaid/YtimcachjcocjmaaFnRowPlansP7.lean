/-
  Plain lemmas on these functions. No conditions but those that each states.
-/
import Derived.Test.YtimcachjcocjmaaFnRowPlansP6
namespace Go.Proofs.Ytimcachjcocjmaa
set_option linter.unusedVariables false
set_option linter.unusedSimpArgs false
/-! Where words begin. -/
def beg (row : Str) (j : Nat) : Prop := ∃ h : j < row.length, row[j] ≠ 32 ∧ (j = 0 ∨ row[j - 1]? = some 32)
theorem so_l2 (kj : List Bool → Option (List Int × Int)) (row : Str) (hr : row.length ≤ 30) : ∀ (n i N : Nat) (B : List Bool), i + n = row.length → n < N → B.length = 30 →
    ∃ B', i_StartsOf_l2 kj row N B (i : Int) = kj B' ∧ B'.length = 30 ∧ (∀ j : Nat, B[j]? = some true → B'[j]? = some true) ∧ ∀ j : Nat, i ≤ j → beg row j → B'[j]? = some true := by
  intro n
  induction n with
  | zero =>
    intro i N B h1 h2 h3
    obtain ⟨N, rfl⟩ := pos_fuel h2
    have hi : ¬ ((i : Int) < (row.length : Int)) := by omega
    exact ⟨B, by simp only [i_StartsOf_l2, hi, decide_false, cond_false], h3, fun _ h => h, fun j hj ⟨h, _⟩ => by omega⟩
  | succ n ih =>
    intro i N B h1 h2 h3
    obtain ⟨N, rfl⟩ := pos_fuel h2
    have hi : (i : Int) < (row.length : Int) := by omega
    have hil : i < row.length := by omega
    have hprev : i ≠ 0 → idx row (w64 ((i : Int) - 1)) = some (row[i - 1]'(by omega)) := fun h => by
      rw [w64_id (by omega) (by omega), show (i : Int) - 1 = ((i - 1 : Nat) : Int) by omega, idx_lt row _ (by omega)]
    have hor : (orO ((i : Int) == 0) ((idx row (w64 ((i : Int) - 1))).bind fun e36 => some (e36 == (32 : UInt8)))) = some (decide (i = 0 ∨ row[i - 1]? = some 32)) := by
      by_cases h : i = 0
      · subst h; simp
      · have hb : ((i : Int) == 0) = false := by rw [beq_eq_false_iff_ne]; omega
        rw [hprev h, hb, orO_false, Option.bind_some]
        have : decide (i = 0 ∨ row[i - 1]? = some 32) = (row[i - 1]'(by omega) == 32) := by
          rw [List.getElem?_eq_getElem (by omega), Bool.eq_iff_iff]
          simp [h]
        rw [this]
    by_cases hb : beg row i
    · obtain ⟨B', e, f1, f2, f3⟩ := ih (i + 1) N (B.set i true) (by omega) (by omega) (by simpa using h3)
      obtain ⟨_, c1, c2⟩ := hb
      have c1' : (row[i] != 32) = true := by simpa using c1
      refine ⟨B', ?_, f1, fun j hj => f2 j ?_, fun j hj hbj => ?_⟩
      · simp only [i_StartsOf_l2, hi, decide_true, cond_true, withK_eq, idx_lt row i hil, Option.bind_some, c1', andO_true, hor, c2, idx_lt B i (by omega), Int.toNat_natCast, w64_nat i (by omega), e]
      · by_cases e : i = j
        · subst e; rw [List.getElem?_set_self (by omega)]
        · rw [List.getElem?_set_ne e]; exact hj
      · by_cases e : j = i
        · subst e; exact f2 j (List.getElem?_set_self (by omega))
        · exact f3 j (by omega) hbj
    · obtain ⟨B', e, f1, f2, f3⟩ := ih (i + 1) N B (by omega) (by omega) h3
      refine ⟨B', ?_, f1, f2, fun j hj hbj => ?_⟩
      · have hand : (andO (row[i] != 32) (some (decide (i = 0 ∨ row[i - 1]? = some 32)))) = some false := by
          rw [andO_some]
          congr 1
          rw [Bool.and_eq_false_iff]
          by_cases c : row[i] = 32
          · left; simp [c]
          · right
            rw [decide_eq_false_iff_not]
            exact fun h => hb ⟨hil, c, h⟩
        simp only [i_StartsOf_l2, hi, decide_true, cond_true, withK_eq, idx_lt row i hil, Option.bind_some, hor, hand, cond_false, w64_nat i (by omega), e]
      · by_cases e : j = i
        · subst e; exact (hb hbj).elim
        · exact f3 j (by omega) hbj
def Ris (l : List Int) (x : Nat) : Prop := (∀ i, ∀ h : i < l.length, 0 ≤ l[i] ∧ l[i] < (x : Int)) ∧ ∀ i, ∀ h : i + 1 < l.length, l[i] < l[i + 1]
theorem so_l3 (kj : List Int → Option (List Int × Int)) (B : List Bool) (hB : B.length = 30) : ∀ (n x N : Nat) (l : List Int), x + n = 30 → n < N → Ris l x → l.length ≤ x →
    ∃ out, i_StartsOf_l3 kj B N l (x : Int) = kj out ∧ Ris out 30 ∧ out.length ≤ 30 ∧ (∀ v, v ∈ l → v ∈ out) ∧ ∀ j : Nat, x ≤ j → B[j]? = some true → (j : Int) ∈ out := by
  intro n
  induction n with
  | zero =>
    intro x N l h1 h2 h3 h4
    obtain ⟨N, rfl⟩ := pos_fuel h2
    obtain rfl : x = 30 := by omega
    exact ⟨l, by simp [i_StartsOf_l3], h3, h4, fun _ h => h, fun j hj h => by have := lt_of_some h; omega⟩
  | succ n ih =>
    intro x N l h1 h2 h3 h4
    obtain ⟨N, rfl⟩ := pos_fuel h2
    have hx : (x : Int) < 30 := by omega
    have hix : idxA 30 B (x : Int) = some B[x] := by unfold idxA; rw [if_pos hB, idx_lt B x (by omega)]
    have mono : Ris l (x + 1) := ⟨fun i h => by have := h3.1 i h; omega, h3.2⟩
    cases hb : B[x] with
    | false =>
      obtain ⟨out, e, f1, f2, f3, f4⟩ := ih (x + 1) N l (by omega) (by omega) mono (by omega)
      refine ⟨out, ?_, f1, f2, f3, fun j hj h => ?_⟩
      · simp only [i_StartsOf_l3, hx, decide_true, cond_true, withK_eq, hix, Option.bind_some, hb, cond_false, w64_nat x (by omega), e]
      · by_cases ej : j = x
        · subst ej; rw [List.getElem?_eq_getElem (by omega), hb] at h; cases h
        · exact f4 j (by omega) h
    | true =>
      have hnew : Ris (l ++ [(x : Int)]) (x + 1) := by
        refine ⟨fun i h => ?_, fun i h => ?_⟩
        · simp at h
          by_cases c : i < l.length
          · rw [List.getElem_append_left c]; have := h3.1 i c; omega
          · obtain rfl : i = l.length := by omega
            simp; omega
        · simp at h
          by_cases c : i + 1 < l.length
          · rw [List.getElem_append_left (by omega), List.getElem_append_left c]; exact h3.2 i c
          · have ei : i + 1 = l.length := by omega
            rw [List.getElem_append_left (by omega), List.getElem_append_right (by omega)]
            simp
            exact (h3.1 i (by omega)).2
      obtain ⟨out, e, f1, f2, f3, f4⟩ := ih (x + 1) N (l ++ [(x : Int)]) (by omega) (by omega) hnew (by simp; omega)
      refine ⟨out, ?_, f1, f2, fun v hv => f3 v (by simp [hv]), fun j hj h => ?_⟩
      · simp only [i_StartsOf_l3, hx, decide_true, cond_true, withK_eq, hix, Option.bind_some, hb]
        rw [app_some _ _ (by unfold LIM; simp; omega), Option.bind_some, w64_nat x (by omega), e]
      · by_cases ej : j = x
        · subst ej; exact f3 _ (by simp)
        · exact f4 j (by omega) h
theorem rowsCode_ok (N : Nat) (a b : Str) (ha : Row a) (hb : Row b) (hN : 200 ≤ N) : i_rowsCode N [a, b] = some 0 := by
  obtain ⟨N, rfl⟩ : ∃ M, N = M + 1 + 1 + 1 := ⟨N - 3, by omega⟩
  have e1 := isRow_ok (N + 1 + 1) a ha (by omega)
  have e2 := isRow_ok (N + 1) b hb (by omega)
  have i0 : idx [a, b] 0 = some a := rfl
  have i1 : idx [a, b] 1 = some b := rfl
  have w1 : w64 (0 + 1) = 1 := rfl
  have w2 : w64 (1 + 1) = 2 := rfl
  have d0 : decide ((0 : Int) < (([a, b] : List Str).length : Int)) = true := rfl
  have d1 : decide ((1 : Int) < (([a, b] : List Str).length : Int)) = true := rfl
  have d2 : decide ((2 : Int) < (([a, b] : List Str).length : Int)) = false := rfl
  have d3 : decide ((([a, b] : List Str).length : Int) > 12) = false := rfl
  unfold i_rowsCode
  simp only [d3, cond_false, withK_eq, i_rowsCode_l1, d0, cond_true, i0, Option.bind_some, e1, Bool.not_true, w1, d1, i1, e2, w2, d2]
theorem startsOf_ok (N : Nat) (a b : Str) (ha : Row a) (hb : Row b) (hN : 300 ≤ N) : ∃ out, i_StartsOf N [a, b] = some (out, 0) ∧ Ris out 30 ∧ out.length ≤ 30 ∧ ∀ j : Nat, beg a j → (j : Int) ∈ out := by
  obtain ⟨M, rfl⟩ : ∃ M, N = M + 1 + 1 + 1 := ⟨N - 3, by omega⟩
  have i0 : idx [a, b] 0 = some a := rfl
  have i1 : idx [a, b] 1 = some b := rfl
  have w1 : w64 (0 + 1) = 1 := rfl
  have w2 : w64 (1 + 1) = 2 := rfl
  have d0 : decide ((0 : Int) < (([a, b] : List Str).length : Int)) = true := rfl
  have d1 : decide ((1 : Int) < (([a, b] : List Str).length : Int)) = true := rfl
  have d2 : decide ((2 : Int) < (([a, b] : List Str).length : Int)) = false := rfl
  unfold i_StartsOf
  rw [rowsCode_ok _ a b ha hb (by omega), Option.bind_some]
  simp only [bne_self_eq_false, cond_false, withK_eq]
  obtain ⟨B1, g1, g2, g3, g4⟩ := so_l2 (fun l14 => i_StartsOf_l1 (fun l8 => i_StartsOf_l3 (fun l42 => some (l42, 0)) l8 (M + 1 + 1 + 1) [] 0) [a, b] (M + 1 + 1) l14 (w64 (0 + 1))) a ha.1 a.length 0 (M + 1 + 1) (List.replicate 30 false) (by omega) (by have := ha.1; omega) (by simp)
  obtain ⟨B2, k1, k2, k3, k4⟩ := so_l2 (fun l14 => i_StartsOf_l1 (fun l8 => i_StartsOf_l3 (fun l42 => some (l42, 0)) l8 (M + 1 + 1 + 1) [] 0) [a, b] (M + 1) l14 (w64 (1 + 1))) b hb.1 b.length 0 (M + 1) B1 (by omega) (by have := hb.1; omega) g2
  obtain ⟨out, q1, q2, q3, q4, q5⟩ := so_l3 (fun l42 => some (l42, 0)) B2 k2 30 0 (M + 1 + 1 + 1) [] rfl (by omega) ⟨fun i h => by simp at h, fun i h => by simp at h⟩ (by simp)
  rw [show ((0 : Nat) : Int) = 0 from rfl] at g1 k1 q1
  refine ⟨out, ?_, q2, q3, fun j hj => q5 j (Nat.zero_le _) (k3 j (g4 j (Nat.zero_le _) hj))⟩
  have r1 : ∀ (kj : List Bool → Option (List Int × Int)) (Q : Nat) (l : List Bool), i_StartsOf_l1 kj [a, b] (Q + 1) l 0 = i_StartsOf_l2 (fun l14 => i_StartsOf_l1 kj [a, b] Q l14 (w64 (0 + 1))) a Q l 0 := fun kj Q l => by
    simp only [i_StartsOf_l1, d0, cond_true, i0, Option.bind_some, withK_eq]
  have r2 : ∀ (kj : List Bool → Option (List Int × Int)) (Q : Nat) (l : List Bool), i_StartsOf_l1 kj [a, b] (Q + 1) l (w64 (0 + 1)) = i_StartsOf_l2 (fun l14 => i_StartsOf_l1 kj [a, b] Q l14 (w64 (1 + 1))) b Q l 0 := fun kj Q l => by
    rw [w1]
    simp only [i_StartsOf_l1, d1, cond_true, i1, Option.bind_some, withK_eq]
  have r3 : ∀ (kj : List Bool → Option (List Int × Int)) (Q : Nat) (l : List Bool), i_StartsOf_l1 kj [a, b] (Q + 1) l (w64 (1 + 1)) = kj l := fun kj Q l => by
    rw [w2]
    simp only [i_StartsOf_l1, d2, cond_false]
  rw [r1, g1, r2, k1, r3, q1]
theorem rises_ok (N : Nat) (l : List Int) (h : Ris l 30) (hl : l.length ≤ 30) (hN : 100 ≤ N) : w_a2Rises N l 31 = some true := by
  have loop : ∀ (K : Option Bool) (n i N : Nat), i + n = l.length → n < N → w_a2Rises_l1 K l 31 N (i : Int) = K := by
    intro K n
    induction n with
    | zero =>
      intro i N h1 h2
      obtain ⟨N, rfl⟩ := pos_fuel h2
      have hi : ¬ ((i : Int) < (l.length : Int)) := by omega
      simp only [w_a2Rises_l1, hi, decide_false, cond_false]
    | succ n ih =>
      intro i N h1 h2
      obtain ⟨N, rfl⟩ := pos_fuel h2
      have hi : (i : Int) < (l.length : Int) := by omega
      have hil : i < l.length := by omega
      obtain ⟨b1, b2⟩ := h.1 i hil
      have n1 : ¬ l[i] < 0 := by omega
      have n2 : ¬ l[i] ≥ 31 := by omega
      have := ih (i + 1) N (by omega) (by omega)
      simp only [w_a2Rises_l1, hi, decide_true, cond_true, idx_lt l i hil, Option.bind_some, n1, n2, decide_false, orO_some, Bool.or_self, orO_false, w64_nat i (by omega), this]
      by_cases h0 : i = 0
      · subst h0; simp
      · obtain ⟨j, rfl⟩ : ∃ j, i = j + 1 := ⟨i - 1, by omega⟩
        have hp : ((j + 1 : Nat) : Int) > 0 := by omega
        have hx : idx l (w64 (((j + 1 : Nat) : Int) - 1)) = some l[j] := by
          rw [w64_id (by omega) (by omega), show ((j + 1 : Nat) : Int) - 1 = (j : Int) by omega, idx_lt l j (by omega)]
        have hlt : ¬ l[j] ≥ l[j + 1] := by have := h.2 j hil; omega
        simp only [hp, decide_true, andO_true, hx, Option.bind_some, hlt, decide_false, cond_false]
  have := fun K => loop K l.length 0 N (by omega) (by omega)
  rw [show ((0 : Nat) : Int) = 0 from rfl] at this
  unfold w_a2Rises
  simp only [withK_eq, this]
theorem has_ok (N : Nat) (l : List Int) (v : Int) (hv : v ∈ l) (hl : l.length ≤ 1000) (hN : l.length < N) : w_a2Has N l v = some true := by
  have loop : ∀ (K : Option Bool) (n i N : Nat), i + n = l.length → n < N → (∃ j, ∃ h : j < l.length, i ≤ j ∧ l[j] = v) → w_a2Has_l1 K l v N (i : Int) = some true := by
    intro K n
    induction n with
    | zero =>
      intro i N h1 h2 ⟨j, h, hj, _⟩
      omega
    | succ n ih =>
      intro i N h1 h2 hex
      obtain ⟨N, rfl⟩ := pos_fuel h2
      have hi : (i : Int) < (l.length : Int) := by omega
      have hil : i < l.length := by omega
      by_cases e : l[i] = v
      · have hb : (l[i] == v) = true := by simpa using e
        simp only [w_a2Has_l1, hi, decide_true, cond_true, idx_lt l i hil, Option.bind_some, hb]
      · have hb : (l[i] == v) = false := by simpa using e
        have := ih (i + 1) N (by omega) (by omega) (by
          obtain ⟨j, h, hj, hv⟩ := hex
          refine ⟨j, h, ?_, hv⟩
          rcases Nat.lt_or_eq_of_le hj with h' | h'
          · exact h'
          · subst h'; exact (e hv).elim)
        simp only [w_a2Has_l1, hi, decide_true, cond_true, idx_lt l i hil, Option.bind_some, hb, cond_false, w64_nat i (by omega), this]
  obtain ⟨j, h, e⟩ := List.getElem_of_mem hv
  have := loop (some false) l.length 0 N (by omega) hN ⟨j, h, Nat.zero_le _, e⟩
  rw [show ((0 : Nat) : Int) = 0 from rfl] at this
  unfold w_a2Has
  simp only [withK_eq, this]
theorem w_l2 (row : Str) (hr : Row row) (r31 : List Int × Int) (h31 : r31.1.length ≤ 30) (hb : ∀ j : Nat, beg row j → (j : Int) ∈ r31.1) (kj : Str → Option Bool) : ∀ (n i N : Nat) (a : Str), i + n = row.length → n + 100 < N → a.length + n ≤ 1000 →
    w_FnRowPlans_l2 kj row r31 N a (i : Int) = kj (a ++ (row.drop i).filter (fun c => c != 32)) := by
  have h30 := hr.1
  intro n
  induction n with
  | zero =>
    intro i N a h1 h2 h3
    obtain ⟨N, rfl⟩ := pos_fuel (show 0 < N by omega)
    have hi : ¬ ((i : Int) < (row.length : Int)) := by omega
    rw [List.drop_of_length_le (by omega)]
    simp only [w_FnRowPlans_l2, hi, decide_false, cond_false, List.filter_nil, List.append_nil]
  | succ n ih =>
    intro i N a h1 h2 h3
    obtain ⟨N, rfl⟩ := pos_fuel (show 0 < N by omega)
    have hi : (i : Int) < (row.length : Int) := by omega
    have hil : i < row.length := by omega
    rw [List.drop_eq_getElem_cons hil, List.filter_cons]
    by_cases c : row[i] = 32
    · have hc : (row[i] == 32) = true := by simpa using c
      have hc' : (row[i] != 32) = false := by simpa using c
      have := ih (i + 1) N a (by omega) (by omega) (by omega)
      simp only [w_FnRowPlans_l2, hi, decide_true, cond_true, withK_eq, idx_lt row i hil, Option.bind_some, hc, w64_nat i (by omega), this, hc', Bool.false_eq_true, if_false]
    · have hc : (row[i] == 32) = false := by simpa using c
      have hc' : (row[i] != 32) = true := by simpa using c
      have := ih (i + 1) N (a ++ [row[i]]) (by omega) (by omega) (by simp; omega)
      have hprev : i ≠ 0 → idx row (w64 ((i : Int) - 1)) = some (row[i - 1]'(by omega)) := fun h => by
        rw [w64_id (by omega) (by omega), show (i : Int) - 1 = ((i - 1 : Nat) : Int) by omega, idx_lt row _ (by omega)]
      have hor : (orO ((i : Int) == 0) ((idx row (w64 ((i : Int) - 1))).bind fun e36 => some (e36 == (32 : UInt8)))) = some (decide (i = 0 ∨ row[i - 1]? = some 32)) := by
        by_cases h : i = 0
        · subst h; simp
        · have hb : ((i : Int) == 0) = false := by rw [beq_eq_false_iff_ne]; omega
          rw [hprev h, hb, orO_false, Option.bind_some]
          have : decide (i = 0 ∨ row[i - 1]? = some 32) = (row[i - 1]'(by omega) == 32) := by
            rw [List.getElem?_eq_getElem (by omega), Bool.eq_iff_iff]
            simp [h]
          rw [this]
      simp only [w_FnRowPlans_l2, hi, decide_true, cond_true, withK_eq, idx_lt row i hil, Option.bind_some, hc, cond_false, w64_nat i (by omega), sub1 row i hil, hor]
      rw [cat_some _ _ (by unfold LIM; simp; omega), Option.bind_some, if_pos hc']
      by_cases hbe : (i = 0 ∨ row[i - 1]? = some 32)
      · have := has_ok N r31.1 (i : Int) (hb i ⟨hil, c, hbe⟩) (by omega) (by omega)
        simp only [hbe, decide_true, cond_true, this, Option.bind_some, Bool.not_true, cond_false]
        rw [ih (i + 1) N (a ++ [row[i]]) (by omega) (by omega) (by simp; omega)]
        simp
      · simp only [hbe, decide_false, cond_false]
        rw [this]
        simp
end Go.Proofs.Ytimcachjcocjmaa
