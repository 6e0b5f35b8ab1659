/-
  Plain lemmas on these functions. No conditions but those that each states.
-/
import Derived.Test.YthkckgiicchpnaaFnCarriageLinesP8
namespace Go.Proofs.Ythkckgiicchpnaa
set_option linter.unusedVariables false
set_option linter.unusedSimpArgs false
/-! A number put into its place among rising ones. -/
def putR (c : Int) : List Int → List Int
  | [] => [c]
  | x :: l => if x < c then x :: putR c l else if x = c then x :: l else c :: x :: l
theorem mem_putR (c : Int) : ∀ (l : List Int) (x : Int), x ∈ putR c l ↔ x = c ∨ x ∈ l
  | [], x => by simp [putR]
  | y :: l, x => by
    unfold putR
    split
    · rw [List.mem_cons, mem_putR c l x, List.mem_cons]
      constructor
      · rintro (h | h | h) <;> simp [h]
      · rintro (h | h | h) <;> simp [h]
    · split
      · rename_i e
        subst e
        simp
      · simp
theorem putR_sorted (c : Int) : ∀ (l : List Int), l.Pairwise (· < ·) → (putR c l).Pairwise (· < ·)
  | [], _ => by simp [putR]
  | y :: l, h => by
    rw [List.pairwise_cons] at h
    unfold putR
    split
    · rename_i hy
      rw [List.pairwise_cons]
      refine ⟨fun x hx => ?_, putR_sorted c l h.2⟩
      rcases (mem_putR c l x).1 hx with e | hx
      · omega
      · exact h.1 x hx
    · split
      · rw [List.pairwise_cons]; exact h
      · rw [List.pairwise_cons]
        refine ⟨fun x hx => ?_, by rw [List.pairwise_cons]; exact h⟩
        rcases List.mem_cons.1 hx with e | hx
        · omega
        · have := h.1 x hx; omega
theorem putR_len (c : Int) : ∀ (l : List Int), (putR c l).length ≤ l.length + 1
  | [] => by simp [putR]
  | y :: l => by
    unfold putR
    split
    · simp only [List.length_cons]; have := putR_len c l; omega
    · split <;> simp
theorem PutDone (l : List Int) (c : Int) (ha : l.length ≤ 1000) : ∀ (n i N : Nat) (o : List Int), i + n = l.length → n < N → o.length ≤ i + 1 → ∀ K, s_l00Put_l1 K l c N o true (i : Int) = K (o ++ l.drop i) true := by
  intro n
  induction n with
  | zero =>
    intro i N o h1 h3 h4 K
    obtain ⟨N, rfl⟩ := pos_fuel h3
    have hi : ¬ ((i : Int) < (l.length : Int)) := by omega
    have e2 : l.drop i = [] := List.drop_of_length_le (by omega)
    simp [s_l00Put_l1, hi, e2]
  | succ n ih =>
    intro i N o h1 h3 h4 K
    obtain ⟨N, rfl⟩ := pos_fuel h3
    have hi : (i : Int) < (l.length : Int) := by omega
    have hn : i < l.length := by omega
    have ea : app o [l[i]] = some (o ++ [l[i]]) := app_some _ _ (by simp; unfold LIM; omega)
    simp only [s_l00Put_l1, hi, decide_true, cond_true, withK_eq, Bool.not_true, andO_false, Option.bind_some, cond_false, idx_lt l i hn, ea, w64_nat i (by omega)]
    rw [ih (i + 1) N (o ++ [l[i]]) (by omega) (by omega) (by simp; omega) K, drop_cons l i hn]
    simp
theorem Put_l1 (l : List Int) (c : Int) (ha : l.length ≤ 1000) (K : List Int → Bool → Option (List Int)) (hK1 : ∀ o, K o true = some o) (hK2 : ∀ o, o.length ≤ 1001 → K o false = some (o ++ [c])) : ∀ (n i N : Nat) (o : List Int), i + n = l.length → n < N → o.length = i → s_l00Put_l1 K l c N o false (i : Int) = some (o ++ putR c (l.drop i)) := by
  intro n
  induction n with
  | zero =>
    intro i N o h1 h3 h4
    obtain ⟨N, rfl⟩ := pos_fuel h3
    have hi : ¬ ((i : Int) < (l.length : Int)) := by omega
    have e2 : l.drop i = [] := List.drop_of_length_le (by omega)
    simp only [s_l00Put_l1, hi, decide_false, cond_false, e2, putR, hK2 o (by omega)]
  | succ n ih =>
    intro i N o h1 h3 h4
    obtain ⟨N, rfl⟩ := pos_fuel h3
    have hi : (i : Int) < (l.length : Int) := by omega
    have hn : i < l.length := by omega
    have ea : app o [l[i]] = some (o ++ [l[i]]) := app_some _ _ (by simp; unfold LIM; omega)
    simp only [s_l00Put_l1, hi, decide_true, cond_true, withK_eq, Bool.not_false, andO_true, idx_lt l i hn, Option.bind_some]
    rw [drop_cons l i hn]
    by_cases hc : l[i] < c
    · have hn1 : ¬ l[i] ≥ c := by omega
      simp only [hn1, decide_false, cond_false, ea, Option.bind_some, w64_nat i (by omega)]
      rw [ih (i + 1) N (o ++ [l[i]]) (by omega) (by omega) (by simp; omega)]
      simp [putR, hc]
    · have hn1 : l[i] ≥ c := by omega
      simp only [hn1, decide_true, cond_true]
      by_cases he : l[i] = c
      · have hn2 : ¬ l[i] > c := by omega
        simp only [hn2, decide_false, cond_false, ea, Option.bind_some, w64_nat i (by omega)]
        rw [PutDone l c ha n (i + 1) N _ (by omega) (by omega) (by simp; omega), hK1]
        have hn3 : ¬ c < c := by omega
        simp [putR, he, hn3]
      · have hn2 : l[i] > c := by omega
        have eb : app o [c] = some (o ++ [c]) := app_some _ _ (by simp; unfold LIM; omega)
        have ec : app (o ++ [c]) [l[i]] = some (o ++ [c] ++ [l[i]]) := app_some _ _ (by simp; unfold LIM; omega)
        simp only [hn2, decide_true, cond_true, eb, Option.bind_some, ec, w64_nat i (by omega)]
        rw [PutDone l c ha n (i + 1) N _ (by omega) (by omega) (by simp; omega), hK1]
        simp [putR, he, hc]
theorem Put_ok (N : Nat) (l : List Int) (c : Int) (ha : l.length ≤ 1000) (hN : l.length < N) : s_l00Put N l c = some (putR c l) := by
  unfold s_l00Put
  simp only [withK_eq]
  have := Put_l1 l c ha (fun l6 done8 => bif !done8 then (app l6 [c]).bind fun l55 => some l55 else some l6) (fun o => rfl) (fun o ho => by
    simp only [Bool.not_false, cond_true]; rw [app_some _ _ (by unfold LIM; simp; omega), Option.bind_some]) l.length 0 N [] (by omega) hN rfl
  rw [show ((0 : Nat) : Int) = 0 from rfl] at this
  rw [this]
  simp
end Go.Proofs.Ythkckgiicchpnaa
