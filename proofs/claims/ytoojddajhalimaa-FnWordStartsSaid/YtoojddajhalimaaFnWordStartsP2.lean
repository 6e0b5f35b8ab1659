/-
  Plain lemmas on these functions. No conditions but those that each states.
-/
import Derived.Test.YtoojddajhalimaaFnWordStartsP
namespace Go.Proofs.Ytoojddajhalimaa
set_option linter.unusedVariables false
set_option linter.unusedSimpArgs false
def pre (u s : Str) : Bool := decide ((s.length : Int) ≥ (u.length : Int)) && (s.take u.length == u)
theorem pre_iff {u s : Str} (h : pre u s = true) : s.take u.length = u := by
  unfold pre at h
  rw [Bool.and_eq_true, beq_iff_eq] at h
  exact h.2
theorem pre_len {u s : Str} (h : pre u s = true) : u.length ≤ s.length := by
  have := congrArg List.length (pre_iff h)
  simp at this; omega
theorem pre_take (s : Str) (n : Nat) : pre (s.take n) s = true := by
  unfold pre
  simp only [List.length_take, Bool.and_eq_true, decide_eq_true_eq, beq_iff_eq]
  constructor
  · omega
  · rw [← List.length_take]; 
    rcases Nat.le_total n s.length with h | h
    · rw [List.length_take, Nat.min_eq_left h]
    · rw [List.length_take, Nat.min_eq_right h, List.take_of_length_le (Nat.le_refl _), List.take_of_length_le h]
theorem pre_less {w s : Str} {n m : Nat} (h : pre (w.take n) s = true) (hm : m ≤ n) : pre (w.take m) s = true := by
  have h1 := pre_iff h
  have h2 := pre_len h
  unfold pre
  simp only [Bool.and_eq_true, decide_eq_true_eq, beq_iff_eq]
  simp only [List.length_take] at h1 h2 ⊢
  refine ⟨by omega, ?_⟩
  have h3 := congrArg (List.take (min m w.length)) h1
  rw [List.take_take, List.take_take] at h3
  rw [show min (min m w.length) (min n w.length) = min m w.length by omega] at h3
  rw [h3]
  rcases Nat.le_total m w.length with g | g
  · rw [Nat.min_eq_left g, Nat.min_eq_left hm]
  · have e : min (min m w.length) n = w.length := by omega
    rw [e, List.take_of_length_le (Nat.le_refl _), List.take_of_length_le g]
/-- another word begins as this one does -/
def cf (W : List Str) (i : Nat) (w : Str) (n : Nat) (k : Nat) : Prop := ∃ h : k < W.length, k ≠ i ∧ pre (w.take n) W[k] = true
/-- the shortest beginning that tells a word apart -/
structure Least (W : List Str) (i : Nat) (w : Str) (n : Nat) : Prop where
  pos : 1 ≤ n
  le : n ≤ w.length
  free : n = w.length ∨ ∀ k, ¬ cf W i w n k
  least : ∀ m, 1 ≤ m → m < n → ∃ k, cf W i w m k
theorem Least.unique {W : List Str} {i : Nat} {w : Str} {n m : Nat} (h : Least W i w n) (g : Least W i w m) : n = m := by
  rcases Nat.lt_trichotomy n m with e | e | e
  · obtain ⟨k, hk⟩ := g.least n h.pos e
    rcases h.free with f | f
    · have := g.le; omega
    · exact absurd hk (f k)
  · exact e
  · obtain ⟨k, hk⟩ := h.least m g.pos e
    rcases g.free with f | f
    · have := h.le; omega
    · exact absurd hk (f k)
theorem cf_less {W : List Str} {i : Nat} {w : Str} {n m k : Nat} (h : cf W i w n k) (hm : m ≤ n) : cf W i w m k := by
  obtain ⟨hk, h1, h2⟩ := h
  exact ⟨hk, h1, pre_less h2 hm⟩
/-- how many words begin so -/
def cnt (W : List Str) (u : Str) : Nat := W.countP (fun x => pre u x)
theorem cnt_two {W : List Str} {i : Nat} {w : Str} {n : Nat} (hi : i < W.length) (hw : W[i] = w) : 1 ≤ cnt W (w.take n) ∧ (cnt W (w.take n) > 1 ↔ ∃ k, cf W i w n k) := by
  have hs : W = W.take i ++ W[i] :: W.drop (i + 1) := by
    rw [← List.drop_eq_getElem_cons hi, List.take_append_drop]
  have hc : cnt W (w.take n) = (W.take i).countP (fun x => pre (w.take n) x) + ((W.drop (i + 1)).countP (fun x => pre (w.take n) x) + 1) := by
    unfold cnt
    conv => lhs; rw [hs]
    rw [List.countP_append, List.countP_cons, hw, pre_take w n]
    simp
  refine ⟨by omega, ?_⟩
  rw [hc]
  constructor
  · intro h
    by_cases g : 0 < (W.take i).countP (fun x => pre (w.take n) x)
    · obtain ⟨x, hx, hp⟩ := List.countP_pos_iff.1 g
      obtain ⟨k, hk, rfl⟩ := List.getElem_of_mem hx
      simp only [List.length_take] at hk
      rw [List.getElem_take] at hp
      exact ⟨k, by omega, by omega, hp⟩
    · have g2 : 0 < (W.drop (i + 1)).countP (fun x => pre (w.take n) x) := by omega
      obtain ⟨x, hx, hp⟩ := List.countP_pos_iff.1 g2
      obtain ⟨k, hk, rfl⟩ := List.getElem_of_mem hx
      simp only [List.length_drop] at hk
      rw [List.getElem_drop] at hp
      exact ⟨i + 1 + k, by omega, by omega, hp⟩
  · rintro ⟨k, hk, hne, hp⟩
    rcases Nat.lt_or_gt_of_ne hne with e | e
    · have : 0 < (W.take i).countP (fun x => pre (w.take n) x) := List.countP_pos_iff.2 ⟨W[k], by
        rw [List.mem_take_iff_getElem]; exact ⟨k, by omega, rfl⟩, hp⟩
      omega
    · have : 0 < (W.drop (i + 1)).countP (fun x => pre (w.take n) x) := List.countP_pos_iff.2 ⟨W[k], by
        rw [List.mem_drop_iff_getElem]; exact ⟨k - (i + 1), by omega, by congr 1; omega⟩, hp⟩
      omega
end Go.Proofs.Ytoojddajhalimaa
