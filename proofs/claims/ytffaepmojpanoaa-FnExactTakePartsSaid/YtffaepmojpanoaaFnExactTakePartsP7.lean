/-
  Plain lemmas on these functions. No conditions but those that each states.
-/
import Derived.Test.YtffaepmojpanoaaFnExactTakePartsP6
namespace Go.Proofs.Ytffaepmojpanoaa
set_option linter.unusedVariables false
set_option linter.unusedSimpArgs false
theorem VP.stock {l : List SparePart} (h : VP l) : ∀ e ∈ l, 0 ≤ e.stock ∧ e.stock ≤ 100000 := by
  intro e he
  have := h.2.1 e he
  simp only [fok, Bool.and_eq_true, inr_iff] at this
  omega
theorem s_l24Add_eq (l : List SparePart) (ha : l.length ≤ LIM) (k m : Int) (h0 : 0 ≤ k) (h1 : k < l.length) :
    s_l24Add l k m = some (l.set k.toNat ⟨(l[k.toNat]'(by omega)).name, w64 ((l[k.toNat]'(by omega)).stock + m), (l[k.toNat]'(by omega)).target, (l[k.toNat]'(by omega)).days, (l[k.toNat]'(by omega)).instead⟩) := by
  unfold s_l24Add
  rw [app_some [] l (by simpa using ha)]
  simp only [Option.bind_some, List.nil_append, idx_int l k h0 h1]
theorem BringParts_eq (N : Nat) (l : List SparePart) (ha : l.length ≤ LIM) (k m : Int) (hN : 2 * l.length + 100 < N) : ∃ p : List SparePart × Int, p.1.length ≤ l.length ∧ s_BringParts N l k m = some p ∧ i_BringParts N l k m = some p := by
  obtain ⟨c, h1, h2⟩ := Code_eq l ha k m
  obtain ⟨h3, h4⟩ := h2 N hN
  by_cases hc : c = 0
  · obtain ⟨hv, h5, h6, h7, h8⟩ := h1 hc
    subst hc
    have hk := idx_int l k h5 h6
    by_cases hb : w64 ((l[k.toNat]'(by omega)).stock + m) > 100000
    · refine ⟨([], 5), by simp, ?_, ?_⟩
      · simp only [s_BringParts, h3, Option.bind_some, withK_eq, beq_self_eq_true, andO_true, hk, hb, decide_true, cond_true]; rfl
      · simp only [i_BringParts, h4, Option.bind_some, bne_self_eq_false, cond_false, hk, hb, decide_true, cond_true]
    · refine ⟨(l.set k.toNat ⟨(l[k.toNat]'(by omega)).name, w64 ((l[k.toNat]'(by omega)).stock + m), (l[k.toNat]'(by omega)).target, (l[k.toNat]'(by omega)).days, (l[k.toNat]'(by omega)).instead⟩, 0), ?_, ?_, ?_⟩
      rotate_left
      · simp only [s_BringParts, h3, Option.bind_some, withK_eq, beq_self_eq_true, andO_true, hk, hb, decide_false, cond_false, bne_self_eq_false, s_l24Add_eq l ha k m h5 h6]
      · simp only [i_BringParts, h4, Option.bind_some, bne_self_eq_false, cond_false, hk, hb, decide_false]
        rw [app_some [] l (by simpa using ha)]
        simp only [Option.bind_some, List.nil_append, hk]
      · simp
  · have e : (c != 0) = true := by simpa using hc
    have e' : (c == 0) = false := by simpa using hc
    refine ⟨([], c), by simp, ?_, ?_⟩
    · simp only [s_BringParts, h3, Option.bind_some, withK_eq, e', andO_false, cond_false, e, cond_true]
    · simp only [i_BringParts, h4, Option.bind_some, e, cond_true]
theorem TakeParts_eq (N : Nat) (l : List SparePart) (ha : l.length ≤ LIM) (k m : Int) (hN : 2 * l.length + 100 < N) : ∃ p : List SparePart × Int × Int, p.1.length ≤ l.length ∧ s_TakeParts N l k m = some p ∧ i_TakeParts N l k m = some p := by
  obtain ⟨c, h1, h2⟩ := Code_eq l ha k m
  obtain ⟨h3, h4⟩ := h2 N hN
  by_cases hc : c = 0
  · obtain ⟨hv, h5, h6, h7, h8⟩ := h1 hc
    subst hc
    obtain ⟨r, h9, h10⟩ := Use_eq l hv k m h6
    obtain ⟨h11, h12⟩ := h10 N (by omega)
    by_cases hr : r < 0
    · refine ⟨([], 0, 3), by simp, ?_, ?_⟩
      · simp [s_TakeParts, h3, h11, hr]
      · simp [i_TakeParts, i_ReplacementOf, h4, h12, hr]
    · have hk := idx_int l r (by omega) h9
      have hs := hv.stock _ (List.getElem_mem (by omega : r.toNat < l.length))
      have e1 : w64 (0 - m) = -m := by rw [w64_id (by omega) (by omega)]; omega
      have e2 : w64 ((l[r.toNat]'(by omega)).stock + -m) = (l[r.toNat]'(by omega)).stock - m := by rw [w64_id (by omega) (by omega)]; omega
      have e3 : w64 ((l[r.toNat]'(by omega)).stock - m) = (l[r.toNat]'(by omega)).stock - m := w64_id (by omega) (by omega)
      refine ⟨(l.set r.toNat ⟨(l[r.toNat]'(by omega)).name, (l[r.toNat]'(by omega)).stock - m, (l[r.toNat]'(by omega)).target, (l[r.toNat]'(by omega)).days, (l[r.toNat]'(by omega)).instead⟩, r, 0), ?_, ?_, ?_⟩
      rotate_left
      · simp only [s_TakeParts, h3, h11, hr, Option.bind_some, bne_self_eq_false, cond_false, decide_false, s_l24Add_eq l ha r _ (by omega) h9, e1, e2]
      · simp only [i_TakeParts, i_ReplacementOf, h4, h12, hr, Option.bind_some, bne_self_eq_false, cond_false, decide_false]
        rw [app_some [] l (by simpa using ha)]
        simp only [Option.bind_some, List.nil_append, hk, e3]
      · simp
  · have e : (c != 0) = true := by simpa using hc
    refine ⟨([], 0, c), by simp, ?_, ?_⟩
    · simp only [s_TakeParts, h3, Option.bind_some, e, cond_true]
    · simp only [i_TakeParts, i_ReplacementOf, h4, Option.bind_some, e, cond_true]
theorem law_FnExactBringParts (a : List SparePart) (k m : Int) (ha : wfL wfSparePart a) (_ : wfI64 k) (_ : wfI64 m) : ∃ N, w_FnExactBringParts N a k m = some true := by
  obtain ⟨N, hN⟩ : ∃ N, N = 3000000 := ⟨_, rfl⟩
  refine ⟨N, ?_⟩
  obtain ⟨r1, h1, h2⟩ := w_szSparePartS_eq (N := N) a 1048576 (by omega) (by omega) (by omega) ha.1 (fun x hx => (ha.2 x hx).1)
  unfold w_FnExactBringParts
  rw [h1]
  rcases h2 with h2 | ⟨h2, h3, la⟩
  · simp [h2]
  have h2' : ¬ r1 < 0 := by omega
  have la' : a.length ≤ LIM := by unfold LIM; omega
  obtain ⟨p, lp, h7, h8⟩ := BringParts_eq N a la' k m (by omega)
  have lp' : p.1.length ≤ LIM := by unfold LIM; omega
  obtain ⟨m1, h9, _⟩ := w_markSparePartS_eq (N := N) a la' (by omega)
  obtain ⟨m2, h10, h11⟩ := w_markSparePartS_eq (N := N) p.1 lp' (by omega)
  have f1 : ¬ (1 + 5 * (a.length : Int) < 0) := by omega
  have f2 : ¬ (1 + 5 * (p.1.length : Int) < 0) := by omega
  simp only [Option.bind_some, h2', f1, f2, decide_false, cond_false, w_toSparePartS_eq a la' (by omega : a.length < N), h7, h8, h9, h10, h11, w_eqSparePartS_eq a la' (by omega : a.length < N), w_eqSparePartS_eq p.1 lp' (by omega : p.1.length < N), bne_self_eq_false, Bool.not_true, orO_some, orO_false, Bool.or_false]
theorem law_FnExactTakeParts (a : List SparePart) (k m : Int) (ha : wfL wfSparePart a) (_ : wfI64 k) (_ : wfI64 m) : ∃ N, w_FnExactTakeParts N a k m = some true := by
  obtain ⟨N, hN⟩ : ∃ N, N = 3000000 := ⟨_, rfl⟩
  refine ⟨N, ?_⟩
  obtain ⟨r1, h1, h2⟩ := w_szSparePartS_eq (N := N) a 1048576 (by omega) (by omega) (by omega) ha.1 (fun x hx => (ha.2 x hx).1)
  unfold w_FnExactTakeParts
  rw [h1]
  rcases h2 with h2 | ⟨h2, h3, la⟩
  · simp [h2]
  have h2' : ¬ r1 < 0 := by omega
  have la' : a.length ≤ LIM := by unfold LIM; omega
  obtain ⟨p, lp, h7, h8⟩ := TakeParts_eq N a la' k m (by omega)
  have lp' : p.1.length ≤ LIM := by unfold LIM; omega
  obtain ⟨m1, h9, _⟩ := w_markSparePartS_eq (N := N) a la' (by omega)
  obtain ⟨m2, h10, h11⟩ := w_markSparePartS_eq (N := N) p.1 lp' (by omega)
  have f1 : ¬ (1 + 5 * (a.length : Int) < 0) := by omega
  have f2 : ¬ (1 + 5 * (p.1.length : Int) < 0) := by omega
  simp only [Option.bind_some, h2', f1, f2, decide_false, cond_false, w_toSparePartS_eq a la' (by omega : a.length < N), h7, h8, h9, h10, h11, w_eqSparePartS_eq a la' (by omega : a.length < N), w_eqSparePartS_eq p.1 lp' (by omega : p.1.length < N), bne_self_eq_false, Bool.not_true, orO_some, orO_false, Bool.or_false]
end Go.Proofs.Ytffaepmojpanoaa
