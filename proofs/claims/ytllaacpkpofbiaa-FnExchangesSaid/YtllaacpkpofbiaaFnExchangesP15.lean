/-
  Plain lemmas on these functions. No conditions but those that each states.
-/
import Derived.Test.YtllaacpkpofbiaaFnExchangesP14
namespace Go.Proofs.Ytllaacpkpofbiaa
set_option linter.unusedVariables false
set_option linter.unusedSimpArgs false
/-! The law. -/
theorem shape_flat : ∀ (A B : List Str), A.map List.length = B.map List.length → A.flatten.length = B.flatten.length
  | [], [], _ => rfl
  | [], _ :: _, h => by cases h
  | _ :: _, [], h => by cases h
  | w :: A, v :: B, h => by
    rw [List.map_cons, List.map_cons] at h
    injection h with h1 h2
    rw [List.flatten_cons, List.flatten_cons, List.length_append, List.length_append, h1, shape_flat A B h2]
theorem flat_le : ∀ (B : List Str), (∀ w ∈ B, w.length ≤ 100) → B.flatten.length ≤ 100 * B.length
  | [], _ => Nat.le_refl _
  | w :: B, h => by
    have h1 := h w List.mem_cons_self
    have h2 := flat_le B fun x hx => h x (List.mem_cons_of_mem _ hx)
    rw [List.flatten_cons, List.length_append, List.length_cons]; omega
theorem law_FnExchanges (code : List UInt8) (_ : wfL wfByte code) : ∃ N, w_FnExchanges N code = some true := by
  refine ⟨100000, ?_⟩
  have hN : 50000 < 100000 := by decide
  generalize 100000 = N at hN ⊢
  unfold w_FnExchanges w_f6big
  rw [Option.bind_some]
  cases decide ((code.length : Int) > 4096) with
  | true => rfl
  | false =>
  rw [cond_false]
  obtain ⟨⟨⟨A⟩, ⟨B⟩⟩, dr, bA, bB⟩ := draw2 code N (by omega)
  have hA : A.length ≤ 10 ∧ ∀ w ∈ A, w.length ≤ 100 := BL.b bA
  have hB : B.length ≤ 10 ∧ ∀ w ∈ B, w.length ≤ 100 := BL.b bB
  have hb := both_ok A B hA.1 hA.2 hB.1 hB.2 N (by omega)
  have hs := same_ok A B (by have := hA.1; show A.length ≤ 1000; exact Nat.le_trans this (by decide)) N (by omega)
  rw [dr, Option.bind_some]
  unfold i_ExchangePlan s_ExchangePlan i_FewestExchanges s_FewestExchanges i_MovedLetters s_MovedLetters i_DistanceOf s_DistanceOf
  simp only [hb.1, hb.2, Option.bind_some]
  have zi : ∀ a : Int, (a != a) = false := fun a => by simp
  have zb : ∀ a : Bool, (a != a) = false := fun a => by simp
  have zs : ∀ a : Str, (a != a) = false := fun a => by simp
  by_cases h0 : CB A B = 0
  · have hS := CB_zero A B h0
    obtain ⟨hVA, hVB, hl, hin⟩ := hS
    have hp := plan_ok A B ⟨hVA, hVB, hl, hin⟩ N (by omega)
    have hm := moved_ok A B ⟨hVA, hVB, hl, hin⟩ N (by omega)
    obtain ⟨D, hD, hd1, hd2⟩ := dist_ok A B ⟨hVA, hVB, hl, hin⟩ N (by omega)
    have hfl := shape_flat A B hl
    have hback := sub_back A.flatten B.flatten hVA.2.2 hin (by omega)
    obtain ⟨x1, x2⟩ := fp_len B.flatten A.flatten hfl hVA.2.2 hVB.2.2 hback
    have hz := fp_zero A.flatten B.flatten hfl hVA.2.2 hVB.2.2 hback
    have hle := fp_le B.flatten A.flatten
    have hBl := flat_le B hB.2
    have hB1 := hB.1
    have hBl' : B.flatten.length ≤ 1000 := Nat.le_trans hBl (by omega)
    have hml : (MV A B).length = df A.flatten B.flatten := by
      unfold MV
      rw [mvw_len _ _ _ hfl hVA.2.2 fun _ _ g => by cases g]
      exact Nat.zero_add _
    have hAB : A = B ↔ df A.flatten B.flatten = 0 := by
      constructor
      · intro e; rw [e]; exact df_self _
      · intro e; exact flat_inj A B hl (df_zero _ _ hfl e)
    have z0 : ((0 : Int) != 0) = false := rfl
    simp only [h0, z0, cond_false, hp.1, hp.2, Option.bind_some]
    rw [hm.1, hm.2]
    simp only [withK_n, Option.bind_some]
    rw [hd1, hd2]
    simp only [Option.bind_some]
    have ht := same_ok (fp A.flatten B.flatten) (fp A.flatten B.flatten) (by omega) N (by omega)
    have hrun := run_ok B (fun l83 => (s_SameLayout N (Layout.mk l83) (Layout.mk B)).bind fun r110 => some r110) (fp A.flatten B.flatten, 0) (by show (fp A.flatten B.flatten).length ≤ 1000; omega) B.flatten [] A.flatten A 0 N rfl rfl hfl hVB.2.2 hl hVA hback rfl (Nat.zero_le _) (by omega)
    rw [show ((0 : Nat) : Int) = 0 from rfl] at hrun
    have hsB := (same_ok B B (by omega) N (by omega)).2.2
    rw [ht.1, hs.2.1, hs.2.2, decide_eq_true rfl]
    generalize hP : fp A.flatten B.flatten = P at *
    generalize hMM : MV A B = M at *
    have q1 : ((P.length : Int) == 0) = (M == []) := by
      rw [Bool.eq_iff_iff, beq_iff_eq, beq_iff_eq]
      constructor
      · intro g
        have : P = [] := List.eq_nil_of_length_eq_zero (by omega)
        have := hz.1 this
        exact List.eq_nil_of_length_eq_zero (by omega)
      · intro g
        rw [g] at hml
        have : P = [] := hz.2 hml.symm
        rw [this]; rfl
    have q2 : (decide ((P.length : Int) > 0) && decide ((P.length : Int) ≥ (M.length : Int))) = false := by
      rw [Bool.and_eq_false_iff, decide_eq_false_iff_not, decide_eq_false_iff_not]
      rcases x1 with x1 | x1
      · left; rw [x1]; decide
      · right; omega
    have q3 : decide (w64 (2 * (P.length : Int)) < (M.length : Int)) = false := by
      rw [w64_id (by omega) (by omega)]
      exact decide_eq_false (by omega)
    have q4 : ((D : Int) == 0) = ((P.length : Int) == 0) := by
      rw [Bool.eq_iff_iff, beq_iff_eq, beq_iff_eq]
      constructor
      · intro g
        have : P = [] := hz.2 (hAB.1 (hD.1 (by omega)))
        rw [this]; rfl
      · intro g
        have : P = [] := List.eq_nil_of_length_eq_zero (by omega)
        have := hD.2 (hAB.2 (hz.1 this))
        omega
    simp only [zi, zb, zs, orO_false, orO_some, andO_some, Option.bind_some, Bool.not_true, Bool.or_self, Bool.false_or, cond_false, q1, q2, q3, q4, Bool.or_false]
    rw [hrun, hsB]
    simp
  · have hne : (CB A B != 0) = true := bne_iff_ne.2 h0
    have ht := (same_ok ([] : List Str) [] (by simp) N (by omega)).1
    simp only [hne, cond_true, Option.bind_some, ht, hs.2.1, hs.2.2, zi, zb, zs, orO_false, orO_some, decide_true, Bool.not_true, Bool.or_self, cond_false]
end Go.Proofs.Ytllaacpkpofbiaa
