/-
  Plain lemmas on these functions. No conditions but those that each states.
-/
import Derived.Test.YtkjccgkpieakpaaFnRacksP7
namespace Go.Proofs.Ytkjccgkpieakpaa
set_option linter.unusedVariables false
set_option linter.unusedSimpArgs false
theorem any_mem (l : List Int) (c : Int) : (l.any (· == c)) = true ↔ c ∈ l := by
  rw [List.any_eq_true]
  constructor
  · rintro ⟨x, hx, h⟩; have : x = c := by simpa using h
    exact this ▸ hx
  · intro h; exact ⟨c, h, by simp⟩
theorem SetStop_eq (N : Nat) (l : List Int) (c : Int) (ha : l.length ≤ 1000) (hN : l.length + 5 < N) : ∃ p : List Int × Int, s_SetStop N l c = some p ∧ i_SetStop N l c = some p ∧ p.1.length ≤ 1001 ∧
    ((p.2 = 0 ∧ p.1 = ins c l ∧ VR l ∧ 0 ≤ c ∧ c ≤ 119 ∧ l.length < 12 ∧ c ∉ l) ∨ p.2 ≠ 0) ∧ (VR l → 0 ≤ c → c ≤ 119 → l.length < 12 → c ∉ l → p.2 = 0) := by
  have la : l.length ≤ LIM := by unfold LIM; omega
  obtain ⟨r, h1, h2⟩ := RackCode_eq l la c
  obtain ⟨h3, h4⟩ := h2 N (by omega)
  by_cases hr : r = 0
  · subst hr
    obtain ⟨hv, hc0, hc1⟩ := h1.1 rfl
    obtain ⟨hl, hel, hp⟩ := (VR_iff l).1 hv
    have hp' := List.pairwise_iff_getElem.1 hp
    obtain ⟨hHas, _⟩ := Has_eq N l c la (by omega)
    obtain ⟨at_, g1, g2, g3, g4, g5⟩ := At_eq l c ha l.length 0 N (by omega) (by omega) (fun j hj => by omega)
    have hat : (andO (decide ((at_ : Int) < (List.length l : Int))) ((idx l (at_ : Int)).bind fun e24 => some (e24 == c))) = some (l.any (· == c)) := by
      by_cases h : at_ < l.length
      · have h' : (at_ : Int) < (l.length : Int) := by omega
        rw [idx_lt l at_ h]
        simp only [h', decide_true, andO_true, Option.bind_some]
        congr 1
        rw [Bool.eq_iff_iff, any_mem]
        constructor
        · intro e; have : l[at_] = c := by simpa using e
          exact this ▸ List.getElem_mem h
        · intro hm
          obtain ⟨j, hj, rfl⟩ := List.getElem_of_mem hm
          have n1 : ¬ j < at_ := fun hlt => by have := g3 j hlt hj; omega
          have n2 : ¬ at_ < j := fun hlt => by have := hp' at_ j h hj hlt; have := g4 h; omega
          have : j = at_ := by omega
          subst this; simp
      · have h' : ¬ (at_ : Int) < (l.length : Int) := by omega
        simp only [h', decide_false, andO_false]
        congr 1
        symm
        rw [← Bool.not_eq_true, any_mem]
        intro hm
        obtain ⟨j, hj, e⟩ := List.getElem_of_mem hm
        have := g3 j (by omega) hj; omega
    have g5' := fun K => g5 K
    rw [show ((0 : Nat) : Int) = 0 from rfl] at g5'
    by_cases hm : c ∈ l
    · have ht := (any_mem l c).2 hm
      rw [ht] at hat hHas
      refine ⟨([], 4), ?_, ?_, by simp, .inr (by simp), fun _ _ _ _ h => absurd hm h⟩
      · simp only [s_SetStop, h3, Option.bind_some, withK_eq, hHas, beq_self_eq_true, andO_true, cond_true, andO_some]
        rfl
      · simp only [i_SetStop, h4, Option.bind_some, withK_eq, bne_self_eq_false, cond_false]
        rw [g5']
        simp only [hat, Option.bind_some, cond_true]
    · have ht : l.any (· == c) = false := by rw [← Bool.not_eq_true, any_mem]; exact hm
      rw [ht] at hat hHas
      by_cases h12 : l.length = 12
      · refine ⟨([], 5), ?_, ?_, by simp, .inr (by simp), fun _ _ _ h => by omega⟩
        · have : (l.length : Int) ≥ 12 := by omega
          simp only [s_SetStop, h3, Option.bind_some, withK_eq, hHas, beq_self_eq_true, andO_true, cond_false, this, decide_true, cond_true]
          rfl
        · have : ((l.length : Int) == 12) = true := by simp; omega
          simp only [i_SetStop, h4, Option.bind_some, withK_eq, bne_self_eq_false, cond_false]
          rw [g5']
          simp only [hat, Option.bind_some, cond_false, this, cond_true]
      · have hlen : (ins c l).length = l.length + 1 := ins_len hp hm
        have gAt : ∀ j, at_ ≤ j → ∀ h : j < l.length, c < l[j] := fun j hj h => by
          have n0 : l[j] ≠ c := fun e => hm (e ▸ List.getElem_mem h)
          by_cases e : j = at_
          · subst e; have := g4 h; omega
          · have := hp' at_ j (by omega) h (by omega)
            have := g4 (by omega); omega
        have hins := take_drop_ins at_ g3 gAt
        refine ⟨(ins c l, 0), ?_, ?_, by simp; omega, .inl ⟨rfl, rfl, hv, hc0, hc1, by omega, hm⟩, fun _ _ _ _ _ => rfl⟩
        · have n12 : ¬ (l.length : Int) ≥ 12 := by omega
          have eo : app [] l = some l := by rw [app_some _ _ (by simp; exact la)]; rfl
          have ep := Put_eq l c ha at_ g2 g3 (fun h => gAt at_ (by omega) h) at_ 0 N [] (by omega) (by omega) rfl
          have hput : s_l00Put N l c = some (ins c l) := by
            unfold s_l00Put
            simp only [withK_eq]
            rw [show (0 : Int) = ((0 : Nat) : Int) from rfl, ep]
            by_cases h : at_ < l.length
            · simp only [h, if_true, Bool.not_true, cond_false, List.nil_append, List.drop_zero]
              rw [hins]
            · have e2 : l.take at_ = l := List.take_of_length_le (by omega)
              have e3 : l.drop at_ = [] := List.drop_of_length_le (by omega)
              simp only [h, if_false, Bool.not_false, cond_true, List.nil_append, List.drop_zero, e2]
              rw [app_some _ _ (by simp; unfold LIM; omega), Option.bind_some, ← hins, e2, e3]
          simp only [s_SetStop, h3, Option.bind_some, withK_eq, hHas, beq_self_eq_true, andO_true, cond_false, n12, decide_false, bne_self_eq_false, s_l00Own, eo, hput]
        · have : ((l.length : Int) == 12) = false := by simp; omega
          have s1 : sub l 0 (at_ : Int) = some (l.take at_) := by rw [sub_some _ _ _ (by omega) (by omega) (by omega)]; simp
          have s2 : sub l (at_ : Int) (l.length : Int) = some (l.drop at_) := by
            rw [sub_some _ _ _ (by omega) (by omega) (by omega)]
            congr 1
            rw [List.take_of_length_le (by simp)]; rfl
          have a1 : app [] (l.take at_) = some (l.take at_) := by rw [app_some _ _ (by simp; unfold LIM; omega)]; rfl
          have a2 : app (l.take at_) [c] = some (l.take at_ ++ [c]) := app_some _ _ (by simp; unfold LIM; omega)
          have a3 : app (l.take at_ ++ [c]) (l.drop at_) = some (l.take at_ ++ [c] ++ l.drop at_) := app_some _ _ (by simp; unfold LIM; omega)
          simp only [i_SetStop, h4, Option.bind_some, withK_eq, bne_self_eq_false, cond_false]
          rw [g5']
          simp only [hat, Option.bind_some, cond_false, this, s1, s2, a1, a2, a3]
          rw [← hins]; simp
  · have e : (r != 0) = true := by simpa using hr
    have e' : (r == 0) = false := by simpa using hr
    refine ⟨([], r), by simp [s_SetStop, h3, e, e'], by simp [i_SetStop, h4, e], by simp, .inr hr, fun g1 g2 g3 _ _ => absurd (h1.2 ⟨g1, g2, g3⟩) hr⟩
theorem filter_len_eq (l : List Int) (c : Int) : ((((l.filter (· != c)).length : Int)) == (l.length : Int)) = !(l.any (· == c)) := by
  rw [Bool.eq_iff_iff, Bool.not_eq_true', ← Bool.not_eq_true, any_mem]
  constructor
  · intro h hm
    have h1 : (l.filter (· != c)).length = l.length := by have := eq_of_beq h; omega
    have := (List.length_filter_eq_length_iff.1 h1) c hm
    simp at this
  · intro hm
    have h1 : (l.filter (· != c)).length = l.length := List.length_filter_eq_length_iff.2 (fun x hx => by
      have : x ≠ c := fun e => hm (e ▸ hx)
      simpa using this)
    simp [h1]
theorem ClearStop_eq (N : Nat) (l : List Int) (c : Int) (ha : l.length ≤ 1001) (hN : l.length + 5 < N) : ∃ p : List Int × Int, s_ClearStop N l c = some p ∧ i_ClearStop N l c = some p ∧ p.1.length ≤ 1001 ∧
    ((p.2 = 0 ∧ p.1 = l.filter (· != c) ∧ VR l ∧ 0 ≤ c ∧ c ≤ 119 ∧ c ∈ l) ∨ p.2 ≠ 0) ∧ (VR l → 0 ≤ c → c ≤ 119 → c ∈ l → p.2 = 0) := by
  have la : l.length ≤ LIM := by unfold LIM; omega
  obtain ⟨r, h1, h2⟩ := RackCode_eq l la c
  obtain ⟨h3, h4⟩ := h2 N (by omega)
  by_cases hr : r = 0
  · subst hr
    obtain ⟨hv, hc0, hc1⟩ := h1.1 rfl
    obtain ⟨hHas, _⟩ := Has_eq N l c la (by omega)
    have hcl := fun K => Clear_l1_eq l c la l.length 0 N [] (by omega) (by omega) (by simp) K
    simp only [List.nil_append, List.drop_zero] at hcl
    rw [show ((0 : Nat) : Int) = 0 from rfl] at hcl
    have hle := List.length_filter_le (· != c) l
    by_cases hm : c ∈ l
    · have ht := (any_mem l c).2 hm
      have hf := filter_len_eq l c
      rw [ht] at hHas hf
      refine ⟨(l.filter (· != c), 0), ?_, ?_, by simp; omega, .inl ⟨rfl, rfl, hv, hc0, hc1, hm⟩, fun _ _ _ _ => rfl⟩
      · simp only [s_ClearStop, h3, Option.bind_some, withK_eq, hHas, beq_self_eq_true, andO_true, Bool.not_true, cond_false, bne_self_eq_false]
        exact (hcl _).1
      · simp only [i_ClearStop, h4, Option.bind_some, withK_eq, bne_self_eq_false, cond_false]
        rw [(hcl _).2]
        simp only [hf, Bool.not_true, cond_false]
    · have ht : l.any (· == c) = false := by rw [← Bool.not_eq_true, any_mem]; exact hm
      have hf := filter_len_eq l c
      rw [ht] at hHas hf
      refine ⟨([], 3), ?_, ?_, by simp, .inr (by simp), fun _ _ _ h => absurd h hm⟩
      · simp only [s_ClearStop, h3, Option.bind_some, withK_eq, hHas, beq_self_eq_true, andO_true, Bool.not_false, cond_true]
        rfl
      · simp only [i_ClearStop, h4, Option.bind_some, withK_eq, bne_self_eq_false, cond_false]
        rw [(hcl _).2]
        simp only [hf, Bool.not_false, cond_true]
  · have e : (r != 0) = true := by simpa using hr
    have e' : (r == 0) = false := by simpa using hr
    refine ⟨([], r), by simp [s_ClearStop, h3, e, e'], by simp [i_ClearStop, h4, e], by simp, .inr hr, fun g1 g2 g3 _ => absurd (h1.2 ⟨g1, g2, g3⟩) hr⟩
end Go.Proofs.Ytkjccgkpieakpaa
