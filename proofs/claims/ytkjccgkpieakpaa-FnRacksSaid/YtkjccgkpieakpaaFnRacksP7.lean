/-
  Plain lemmas on these functions. No conditions but those that each states.
-/
import Derived.Test.YtkjccgkpieakpaaFnRacksP6
namespace Go.Proofs.Ytkjccgkpieakpaa
set_option linter.unusedVariables false
set_option linter.unusedSimpArgs false
/-- a column put into its place -/
def ins (c : Int) (l : List Int) : List Int := l.filter (fun x => decide (x < c)) ++ c :: l.filter (fun x => decide (x > c))
theorem VR_iff (l : List Int) : VR l ↔ l.length ≤ 12 ∧ (∀ x ∈ l, 0 ≤ x ∧ x ≤ 119) ∧ l.Pairwise (· < ·) := by
  unfold VR rgt
  constructor
  · rintro ⟨h1, h2⟩
    refine ⟨h1, fun x hx => ?_, ?_⟩
    · obtain ⟨j, hj, rfl⟩ := List.getElem_of_mem hx
      exact (h2 j (by omega) hj).1
    · rw [List.pairwise_iff_getElem]
      intro i j hi hj hij
      induction j with
      | zero => omega
      | succ j ih =>
        have h3 := (h2 (j + 1) (by omega) hj).2 (by omega)
        simp only [Nat.add_sub_cancel] at h3
        by_cases e : i = j
        · subst e; exact h3
        · exact Int.lt_trans (ih (by omega) (by omega)) h3
  · rintro ⟨h1, h2, h3⟩
    refine ⟨h1, fun j _ hj => ⟨h2 _ (List.getElem_mem hj), fun h0 => ?_⟩⟩
    exact (List.pairwise_iff_getElem.1 h3) (j - 1) j (by omega) hj (by omega)
theorem filter_lt_none {l : List Int} {c : Int} (h : ∀ x ∈ l, c ≤ x) : l.filter (fun x => decide (x < c)) = [] := by
  rw [List.filter_eq_nil_iff]; intro x hx; have := h x hx; simp; omega
theorem filter_gt_all {l : List Int} {c : Int} (h : ∀ x ∈ l, c < x) : l.filter (fun x => decide (x > c)) = l := by
  rw [List.filter_eq_self]; intro x hx; have := h x hx; simp; omega
theorem filter_lt_all {l : List Int} {c : Int} (h : ∀ x ∈ l, x < c) : l.filter (fun x => decide (x < c)) = l := by
  rw [List.filter_eq_self]; intro x hx; have := h x hx; simp; omega
theorem filter_gt_none {l : List Int} {c : Int} (h : ∀ x ∈ l, x ≤ c) : l.filter (fun x => decide (x > c)) = [] := by
  rw [List.filter_eq_nil_iff]; intro x hx; have := h x hx; simp; omega
theorem sorted_ins {l : List Int} {c : Int} (h : l.Pairwise (· < ·)) (hc : c ∈ l) : ins c l = l := by
  induction l with
  | nil => simp at hc
  | cons x t ih =>
    rw [List.pairwise_cons] at h
    by_cases e : x = c
    · subst e
      have h1 : ∀ y ∈ t, x < y := h.1
      unfold ins
      rw [List.filter_cons, List.filter_cons]
      simp only [Int.lt_irrefl, decide_false, Bool.false_eq_true, if_false, gt_iff_lt]
      have e1 := filter_lt_none (l := t) (c := x) (fun y hy => by have := h1 y hy; omega)
      have e2 := filter_gt_all (l := t) (c := x) h1
      simp only [gt_iff_lt] at e2
      rw [e1, e2]; rfl
    · have hm : c ∈ t := by simpa [Ne.symm e] using hc
      have hlt : x < c := h.1 c hm
      have := ih h.2 hm
      unfold ins at this ⊢
      rw [List.filter_cons, List.filter_cons]
      have h2 : ¬ x > c := by omega
      simp only [hlt, h2, decide_true, decide_false, Bool.false_eq_true, if_true, if_false, List.cons_append]
      rw [this]
theorem sorted_parts {l : List Int} {c : Int} (h : l.Pairwise (· < ·)) (hc : c ∉ l) : l.filter (fun x => decide (x < c)) ++ l.filter (fun x => decide (x > c)) = l := by
  induction l with
  | nil => rfl
  | cons x t ih =>
    rw [List.pairwise_cons] at h
    simp only [List.mem_cons, not_or] at hc
    by_cases hlt : x < c
    · have := ih h.2 hc.2
      rw [List.filter_cons, List.filter_cons]
      have h2 : ¬ x > c := by omega
      simp only [hlt, h2, decide_true, decide_false, Bool.false_eq_true, if_true, if_false, List.cons_append]
      rw [this]
    · have hgt : c < x := by have := hc.1; omega
      have e1 := filter_lt_none (l := x :: t) (c := c) (fun y hy => by
        rcases List.mem_cons.1 hy with rfl | hy
        · omega
        · have := h.1 y hy; omega)
      have e2 := filter_gt_all (l := x :: t) (c := c) (fun y hy => by
        rcases List.mem_cons.1 hy with rfl | hy
        · omega
        · have := h.1 y hy; omega)
      rw [e1, e2]; rfl
theorem take_drop_ins {l : List Int} {c : Int} (at_ : Nat) (h1 : ∀ j, j < at_ → ∀ h : j < l.length, l[j] < c) (h2 : ∀ j, at_ ≤ j → ∀ h : j < l.length, c < l[j]) : l.take at_ ++ c :: l.drop at_ = ins c l := by
  have hA : ∀ x ∈ l.take at_, x < c := fun x hx => by
    obtain ⟨j, hj, rfl⟩ := List.getElem_of_mem hx
    simp only [List.length_take] at hj
    rw [List.getElem_take]; exact h1 j (by omega) (by omega)
  have hB : ∀ x ∈ l.drop at_, c < x := fun x hx => by
    obtain ⟨j, hj, rfl⟩ := List.getElem_of_mem hx
    simp only [List.length_drop] at hj
    rw [List.getElem_drop]; exact h2 _ (by omega) (by omega)
  have e1 : l.filter (fun x => decide (x < c)) = l.take at_ := by
    conv => lhs; rw [← List.take_append_drop at_ l]
    rw [List.filter_append, filter_lt_all hA, filter_lt_none (fun x hx => by have := hB x hx; omega), List.append_nil]
  have e2 : l.filter (fun x => decide (x > c)) = l.drop at_ := by
    conv => lhs; rw [← List.take_append_drop at_ l]
    rw [List.filter_append, filter_gt_all hB, filter_gt_none (fun x hx => by have := hA x hx; omega), List.nil_append]
  unfold ins
  rw [e1, e2]
theorem ins_pairwise {l : List Int} {c : Int} (h : l.Pairwise (· < ·)) : (ins c l).Pairwise (· < ·) := by
  unfold ins
  rw [List.pairwise_append]
  refine ⟨h.filter _, ?_, ?_⟩
  · rw [List.pairwise_cons]
    exact ⟨fun x hx => by simpa using (List.mem_filter.1 hx).2, h.filter _⟩
  · intro a ha b hb
    have h1 : a < c := by simpa using (List.mem_filter.1 ha).2
    rcases List.mem_cons.1 hb with rfl | hb
    · exact h1
    · have : c < b := by simpa using (List.mem_filter.1 hb).2
      omega
theorem ins_len {l : List Int} {c : Int} (h : l.Pairwise (· < ·)) (hc : c ∉ l) : (ins c l).length = l.length + 1 := by
  have := congrArg List.length (sorted_parts h hc)
  unfold ins
  simp only [List.length_append, List.length_cons] at this ⊢
  omega
theorem ins_filter {l : List Int} {c : Int} (h : l.Pairwise (· < ·)) (hc : c ∉ l) : (ins c l).filter (· != c) = l := by
  unfold ins
  rw [List.filter_append, List.filter_cons]
  simp only [bne_self_eq_false, Bool.false_eq_true, if_false]
  rw [List.filter_filter, List.filter_filter]
  conv => rhs; rw [← sorted_parts h hc]
  congr 1
  · apply List.filter_congr; intro x _; by_cases g : x < c <;> simp [g]; omega
  · apply List.filter_congr; intro x _; by_cases g : c < x <;> simp [g]; omega
theorem filter_ins {l : List Int} {c : Int} : ins c (l.filter (· != c)) = ins c l := by
  unfold ins
  rw [List.filter_filter, List.filter_filter]
  congr 1
  · apply List.filter_congr; intro x _; by_cases g : x < c <;> simp [g]; omega
  · congr 1
    apply List.filter_congr; intro x _; by_cases g : c < x <;> simp [g]; omega
theorem mem_ins {l : List Int} {c x : Int} (h : x ∈ ins c l) : x = c ∨ x ∈ l := by
  unfold ins at h
  rcases List.mem_append.1 h with h | h
  · exact .inr (List.mem_filter.1 h).1
  · rcases List.mem_cons.1 h with h | h
    · exact .inl h
    · exact .inr (List.mem_filter.1 h).1
end Go.Proofs.Ytkjccgkpieakpaa
