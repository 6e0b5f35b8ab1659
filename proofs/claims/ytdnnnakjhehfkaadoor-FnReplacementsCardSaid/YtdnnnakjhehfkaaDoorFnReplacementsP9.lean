/-
  Plain lemmas on these functions. No conditions but those that each states.
-/
import Derived.Test.YtdnnnakjhehfkaaDoorFnReplacementsP8
namespace Go.Proofs.YtdnnnakjhehfkaaDoor
set_option linter.unusedVariables false
set_option linter.unusedSimpArgs false
theorem VP.stock {l : List SparePart} (h : VP l) : ∀ e ∈ l, 0 ≤ e.stock ∧ e.stock ≤ 100000 := by
  intro e he
  have := h.2.1 e he
  simp only [fok, Bool.and_eq_true, inr_iff] at this
  omega
theorem s_l24Add_eq (l : List SparePart) (ha : l.length ≤ LIM) (k m : Int) (h0 : 0 ≤ k) (h1 : k < l.length) :
    s_l24Add l k m = some (l.set k.toNat ⟨(l[k.toNat]'(by omega)).name, w64 ((l[k.toNat]'(by omega)).stock + m), (l[k.toNat]'(by omega)).target, (l[k.toNat]'(by omega)).days, (l[k.toNat]'(by omega)).instead⟩) := by
  unfold s_l24Add
  rw [app_some [] l (by simpa using ha)]
  simp only [Option.bind_some, List.nil_append, idx_int l k h0 h1]
theorem BringParts_eq (N : Nat) (l : List SparePart) (ha : l.length ≤ LIM) (k m : Int) (hN : 2 * l.length + 100 < N) : ∃ p : List SparePart × Int, p.1.length ≤ l.length ∧ s_BringParts N l k m = some p ∧ i_BringParts N l k m = some p := by
  obtain ⟨c, h1, h2⟩ := Code_eq l ha k m
  obtain ⟨h3, h4⟩ := h2 N hN
  by_cases hc : c = 0
  · obtain ⟨hv, h5, h6, h7, h8⟩ := h1 hc
    subst hc
    have hk := idx_int l k h5 h6
    by_cases hb : w64 ((l[k.toNat]'(by omega)).stock + m) > 100000
    · refine ⟨([], 5), by simp, ?_, ?_⟩
      · simp only [s_BringParts, h3, Option.bind_some, withK_eq, beq_self_eq_true, andO_true, hk, hb, decide_true, cond_true]; rfl
      · simp only [i_BringParts, h4, Option.bind_some, bne_self_eq_false, cond_false, hk, hb, decide_true, cond_true]
    · refine ⟨(l.set k.toNat ⟨(l[k.toNat]'(by omega)).name, w64 ((l[k.toNat]'(by omega)).stock + m), (l[k.toNat]'(by omega)).target, (l[k.toNat]'(by omega)).days, (l[k.toNat]'(by omega)).instead⟩, 0), ?_, ?_, ?_⟩
      rotate_left
      · simp only [s_BringParts, h3, Option.bind_some, withK_eq, beq_self_eq_true, andO_true, hk, hb, decide_false, cond_false, bne_self_eq_false, s_l24Add_eq l ha k m h5 h6]
      · simp only [i_BringParts, h4, Option.bind_some, bne_self_eq_false, cond_false, hk, hb, decide_false]
        rw [app_some [] l (by simpa using ha)]
        simp only [Option.bind_some, List.nil_append, hk]
      · simp
  · have e : (c != 0) = true := by simpa using hc
    have e' : (c == 0) = false := by simpa using hc
    refine ⟨([], c), by simp, ?_, ?_⟩
    · simp only [s_BringParts, h3, Option.bind_some, withK_eq, e', andO_false, cond_false, e, cond_true]
    · simp only [i_BringParts, h4, Option.bind_some, e, cond_true]
end Go.Proofs.YtdnnnakjhehfkaaDoor
