/-
  Plain lemmas on these functions. No conditions but those that each states.
-/
import Derived.Test.YtoojddajhalimaaFnWordStartsP6
namespace Go.Proofs.Ytoojddajhalimaa
set_option linter.unusedVariables false
set_option linter.unusedSimpArgs false
theorem Starts_eq (N : Nat) (W : List Str) (hl : W.length ≤ 1000) (hw : ∀ w ∈ W, w.length ≤ 1000) (hN : 6000 < N) : ∃ p : List Str × Int, i_ShortestStarts N W = some p ∧ s_ShortestStarts N W = some p ∧ p.1.length ≤ 1000 ∧ (p.2 = 0 → Wd W ∧ p.1.length = W.length ∧ ∀ j (h1 : j < p.1.length) (h2 : j < W.length), ∃ q, Least W j W[j] q ∧ p.1[j] = W[j].take q) := by
  obtain ⟨t, h1, h2⟩ := list_eq W hl hw
  obtain ⟨h3, h4⟩ := h2 N (by omega)
  cases t
  · exact ⟨([], 1), by simp [i_ShortestStarts, h4], by simp [s_ShortestStarts, h3], by simp, fun h => by simp at h⟩
  · have hW := h1 rfl
    obtain ⟨M, m1, m2, m3⟩ := start_l1 W hW W.length 0 (by omega)
    obtain ⟨k1, k2⟩ := m3 N [] (by omega) (by simp; omega)
    rw [show ((0 : Nat) : Int) = 0 from rfl] at k1 k2
    refine ⟨(M, 0), ?_, ?_, by show M.length ≤ 1000; omega, fun _ => ⟨hW, m1, fun j g1 g2 => ?_⟩⟩
    · simp only [i_ShortestStarts, h4, Option.bind_some, Bool.not_true, cond_false, withK_eq, k1, List.nil_append]
    · simp only [s_ShortestStarts, h3, Option.bind_some, Bool.not_true, cond_false, withK_eq, k2, List.nil_append]
    · obtain ⟨q, q1, q2⟩ := m2 j g1 (by omega)
      simp only [Nat.zero_add] at q1 q2
      exact ⟨q, q1, q2⟩
/-- the word with a beginning -/
def wf (W : List Str) (u : Str) : Str × Int := bif W.any (· == u) then (u, 0) else match W.filter (fun x => pre u x) with
  | [] => ([], 3)
  | [x] => (x, 0)
  | _ => ([], 9)
theorem wf_l1 (W : List Str) (u : Str) (hl : W.length ≤ 1000) : ∀ (n i N : Nat) (o : List Str) (f : Str), i + n = W.length → n < N → o.length ≤ i →
    (∀ K, i_WordFor_l1 K W u N o (i : Int) = bif (W.drop i).any (· == u) then some (u, 0) else K (o ++ (W.drop i).filter (fun x => pre u x))) ∧
    ∀ K, s_WordFor_l1 K W u N f (i : Int) = bif (W.drop i).any (· == u) then some (u, 0) else K (((W.drop i).filter (fun x => pre u x)).getLastD f) := by
  intro n
  induction n with
  | zero =>
    intro i N o f h1 h3 ho
    obtain ⟨N, rfl⟩ := pos_fuel h3
    have hi : ¬ ((i : Int) < (W.length : Int)) := by omega
    have e2 : W.drop i = [] := List.drop_of_length_le (by omega)
    exact ⟨fun K => by simp [i_WordFor_l1, hi, e2], fun K => by simp [s_WordFor_l1, hi, e2]⟩
  | succ n ih =>
    intro i N o f h1 h3 ho
    obtain ⟨N, rfl⟩ := pos_fuel h3
    have hi : (i : Int) < (W.length : Int) := by omega
    have hn : i < W.length := by omega
    have ea : app o [W[i]] = some (o ++ [W[i]]) := app_some _ _ (by simp; unfold LIM; omega)
    have hih := fun o f ho => ih (i + 1) N o f (by omega) (by omega) ho
    refine ⟨fun K => ?_, fun K => ?_⟩
    · simp only [i_WordFor_l1, hi, decide_true, cond_true, withK_eq, idx_lt W i hn, Option.bind_some, (starts_eq W[i] u).2, ea, w64_nat i (by omega)]
      rw [drop_cons W i hn, List.any_cons, List.filter_cons, (hih (o ++ [W[i]]) f (by simp; omega)).1 K, (hih o f (by omega)).1 K]
      cases hc : (W[i] == u)
      · cases pre u W[i] <;> simp
      · have : W[i] = u := eq_of_beq hc
        simp [this]
    · simp only [s_WordFor_l1, hi, decide_true, cond_true, withK_eq, idx_lt W i hn, Option.bind_some, (starts_eq W[i] u).1, w64_nat i (by omega)]
      rw [drop_cons W i hn, List.any_cons, List.filter_cons, (hih o W[i] (by omega)).2 K, (hih o f (by omega)).2 K]
      cases hc : (W[i] == u)
      · cases pre u W[i]
        · simp
        · simp only [cond_false, cond_true, Bool.false_or, if_true]
          cases (W.drop (i + 1)).any (· == u)
          · simp only [cond_false]
            congr 1
            cases (W.drop (i + 1)).filter (fun x => pre u x) <;> rfl
          · rfl
      · simp
theorem WordFor_eq (N : Nat) (W : List Str) (u : Str) (hl : W.length ≤ 1000) (hw : ∀ w ∈ W, w.length ≤ 1000) (hu : u.length ≤ 1000) (hN : 6000 < N) : ∃ p : Str × Int, i_WordFor N W u = some p ∧ s_WordFor N W u = some p ∧ ((p.2 = 1 ∨ p.2 = 2) ∨ p = wf W u) ∧ ((∃ t : Bool, t = true ∧ i_areDifferentWords N W = some t) → smw u = true → p = wf W u) := by
  obtain ⟨t, h1, h2⟩ := list_eq W hl hw
  obtain ⟨h3, h4⟩ := h2 N (by omega)
  obtain ⟨w1, w2⟩ := word_eq N u hu (by omega)
  cases t
  · exact ⟨([], 1), by simp [i_WordFor, h4], by simp [s_WordFor, h3], .inl (.inl rfl), fun ⟨t, g1, g2⟩ _ => by rw [h4] at g2; simp at g2; subst g2; cases g1⟩
  · cases hs : smw u
    · exact ⟨([], 2), by simp [i_WordFor, h4, w2, hs], by simp [s_WordFor, h3, w1, hs], .inl (.inr rfl), fun _ h => by cases h⟩
    · obtain ⟨k1, k2⟩ := wf_l1 W u hl W.length 0 N [] [] (by omega) (by omega) (by simp)
      rw [show ((0 : Nat) : Int) = 0 from rfl] at k1 k2
      simp only [List.drop_zero, List.nil_append] at k1 k2
      have hc := count_eq N W u hl (by omega)
      have hcn : cnt W u = (W.filter (fun x => pre u x)).length := by unfold cnt; rw [List.countP_eq_length_filter]
      refine ⟨wf W u, ?_, ?_, .inr rfl, fun _ _ => rfl⟩
      · simp only [i_WordFor, h4, Option.bind_some, Bool.not_true, cond_false, w2, hs, withK_eq, k1]
        unfold wf
        cases W.any (· == u)
        · simp only [cond_false]
          split
          · rename_i e; rw [e]; rfl
          · rename_i x e; rw [e]; rfl
          · rename_i e1 e2
            cases hf : W.filter (fun x => pre u x) with
            | nil => exact absurd hf e1
            | cons a r =>
              cases r with
              | nil => exact absurd hf (e2 a)
              | cons b r =>
                have q1 : (((a :: b :: r).length : Int) == 0) = false := by simp; omega
                have q2 : (((a :: b :: r).length : Int) == 1) = false := by simp; omega
                simp only [q1, q2, cond_false]
        · rfl
      · simp only [s_WordFor, h3, Option.bind_some, Bool.not_true, cond_false, w1, hs, withK_eq, k2, hc, hcn]
        unfold wf
        cases W.any (· == u)
        · simp only [cond_false]
          split
          · rename_i e; rw [e]; rfl
          · rename_i x e; rw [e]; rfl
          · rename_i e1 e2
            cases hf : W.filter (fun x => pre u x) with
            | nil => exact absurd hf e1
            | cons a r =>
              cases r with
              | nil => exact absurd hf (e2 a)
              | cons b r =>
                have q1 : ((((a :: b :: r).length : Nat) : Int) == 0) = false := by simp; omega
                have q2 : ((((a :: b :: r).length : Nat) : Int) > 1) := by simp; omega
                simp only [q1, q2, decide_true, cond_false, cond_true]
        · rfl
theorem pre_self (u : Str) : pre u u = true := by unfold pre; simp
theorem wf_zero {W : List Str} {u : Str} (h : (wf W u).2 = 0) : pre u (wf W u).1 = true := by
  unfold wf at h ⊢
  cases ha : W.any (· == u)
  · rw [ha] at h
    simp only [cond_false] at h ⊢
    cases hf : W.filter (fun x => pre u x) with
    | nil => rw [hf] at h; simp at h
    | cons a r =>
      cases r with
      | nil => exact (List.mem_filter.1 (by rw [hf]; simp : a ∈ W.filter (fun x => pre u x))).2
      | cons b r => rw [hf] at h; simp at h
  · exact pre_self u
theorem wf_three {W : List Str} {u w : Str} (hw : w ∈ W) (hp : pre u w = true) : (wf W u).2 ≠ 3 := by
  unfold wf
  cases W.any (· == u)
  · simp only [cond_false]
    have hm : w ∈ W.filter (fun x => pre u x) := List.mem_filter.2 ⟨hw, hp⟩
    cases hf : W.filter (fun x => pre u x) with
    | nil => rw [hf] at hm; simp at hm
    | cons a r =>
      cases r with
      | nil => simp
      | cons b r => simp
  · simp
theorem wf_least {W : List Str} (hW : Wd W) {i : Nat} (hi : i < W.length) {q : Nat} (h : Least W i W[i] q) : wf W (W[i].take q) = (W[i], 0) := by
  unfold wf
  cases ha : W.any (· == W[i].take q)
  · simp only [cond_false]
    have hne : q ≠ W[i].length := fun e => by
      rw [List.any_eq_false] at ha
      have := ha W[i] (List.getElem_mem hi)
      rw [e, List.take_of_length_le (Nat.le_refl _)] at this
      simp at this
    have hfree : ∀ k, ¬ cf W i W[i] q k := by
      rcases h.free with f | f
      · exact absurd f hne
      · exact f
    have hone : cnt W (W[i].take q) = 1 := by
      obtain ⟨c1, c2⟩ := cnt_two (n := q) hi rfl
      have : ¬ cnt W (W[i].take q) > 1 := fun g => by obtain ⟨k, hk⟩ := c2.1 g; exact hfree k hk
      omega
    have hlen : (W.filter (fun x => pre (W[i].take q) x)).length = 1 := by rw [← List.countP_eq_length_filter]; exact hone
    obtain ⟨x, hx⟩ := List.length_eq_one_iff.1 hlen
    have hm : W[i] ∈ W.filter (fun x => pre (W[i].take q) x) := List.mem_filter.2 ⟨List.getElem_mem hi, pre_take _ _⟩
    rw [hx] at hm ⊢
    simp at hm
    rw [hm]
  · simp only [cond_true]
    rw [List.any_eq_true] at ha
    obtain ⟨x, hx, he⟩ := ha
    have he : x = W[i].take q := eq_of_beq he
    obtain ⟨k, hk, rfl⟩ := List.getElem_of_mem hx
    by_cases e : k = i
    · subst e; rw [← he]
    · rcases h.free with f | f
      · rw [f, List.take_of_length_le (Nat.le_refl _)]
      · exact absurd ⟨hk, e, by rw [he]; exact pre_self _⟩ (f k)
end Go.Proofs.Ytoojddajhalimaa
