/-
  Plain lemmas on these functions. No conditions but those that each states.
-/
import Derived.Test.YtlmpbacboapkaaaFnBreaksP7
namespace Go.Proofs.Ytlmpbacboapkaaa
set_option linter.unusedVariables false
set_option linter.unusedSimpArgs false
/-! The least width, and the law. -/
theorem few_ok {ws : List Str} (h : TW ws) (hne : 0 < ws.length) (W : Int) (N : Nat) (hN : 500 < N) : i_fewestLines N ws W = some (((FB ws W).length + 1 : Nat) : Int) := by
  have hl := h.1
  have hb := fb_len (PW ws) W ws.length 0 0
  have e0 : ((ws.length : Int) == 0) = false := by rw [beq_eq_false_iff_ne]; omega
  have ht : (toI (FB ws W)).length = (FB ws W).length := by simp [toI]
  unfold i_fewestLines
  rw [e0, cond_false, first_ok h W N hN, Option.bind_some, ht, w64_nat _ (by unfold FB; omega)]
theorem sfew_ok {ws : List Str} (h : TW ws) (hne : 0 < ws.length) (W : Int) (h1 : 1 ≤ W) (h2 : W ≤ 80) (N : Nat) (hN : 500 < N) : s_FewestLines N ws W = some (bif fits ws W then ((((FB ws W).length + 1 : Nat) : Int), 0) else (0, 1)) := by
  have hl := h.1
  have hb := fb_len (PW ws) W ws.length 0 0
  have e0 : ((ws.length : Int) == 0) = false := by rw [beq_eq_false_iff_ne]; omega
  have ht : (toI (FB ws W)).length = (FB ws W).length := by simp [toI]
  unfold s_FewestLines
  rw [(vt_ok h W h1 h2 N hN).2, Option.bind_some]
  cases hf : fits ws W with
  | false => rfl
  | true => rw [Bool.not_true, cond_false, e0, cond_false, sfirst_ok h W N hN, Option.bind_some, ht, w64_nat _ (by unfold FB; omega)]; rfl
theorem fewest_ok {ws : List Str} (h : TW ws) (hne : 0 < ws.length) (W : Int) (h1 : 1 ≤ W) (h2 : W ≤ 80) (N : Nat) (hN : 500 < N) : i_FewestLines N ws W = some (bif fits ws W then ((((FB ws W).length + 1 : Nat) : Int), 0) else (0, 1)) := by
  unfold i_FewestLines
  rw [(vt_ok h W h1 h2 N hN).1, Option.bind_some]
  cases hf : fits ws W with
  | false => rfl
  | true => rw [Bool.not_true, cond_false, few_ok h hne W N hN, Option.bind_some]; rfl
def chk (ws : List Str) (m : Nat) (w : Nat) : Bool := fits ws (w : Int) && decide ((FB ws (w : Int)).length + 1 ≤ m)
theorem lw_l1 {ws : List Str} (h : TW ws) (hne : 0 < ws.length) (m : Nat) (kj : Option (Int × Int)) (w0 : Nat) (hw0 : w0 ≤ 80) (hc0 : chk ws m w0 = true) : ∀ (q w N : Nat), w + q = 81 → q + 600 < N → 1 ≤ w → w ≤ w0 → (∀ w', 1 ≤ w' → w' < w → chk ws m w' = false) → ∃ r : Nat, 1 ≤ r ∧ r ≤ w0 ∧ i_LeastWidth_l1 kj ws (m : Int) N (w : Int) = some ((r : Int), 0) ∧ chk ws m r = true ∧ ∀ w', 1 ≤ w' → w' < r → chk ws m w' = false := by
  intro q
  induction q with
  | zero => intro w N hw hN h1 h2; omega
  | succ q ih =>
    intro w N hw hN h1 h2 hall
    obtain ⟨N, rfl⟩ := pos_fuel (show 0 < N by omega)
    have hk : (andO (fits ws (w : Int)) ((i_fewestLines N ws (w : Int)).bind fun r20 => some (decide (r20 ≤ (m : Int))))) = some (chk ws m w) := by
      rw [few_ok h hne (w : Int) N (by omega), Option.bind_some, andO_some]
      unfold chk
      congr 2
      rw [Bool.eq_iff_iff, decide_eq_true_eq, decide_eq_true_eq]
      omega
    rw [i_LeastWidth_l1, decide_eq_true (by omega : (w : Int) ≤ 80), cond_true, (vt_ok h (w : Int) (by omega) (by omega) N (by omega)).1, Option.bind_some, hk, Option.bind_some, w64_nat w (by omega)]
    cases hc : chk ws m w with
    | true => exact ⟨w, h1, h2, rfl, hc, hall⟩
    | false =>
      rw [cond_false]
      have hlt : w < w0 := by
        rcases Nat.lt_or_eq_of_le h2 with g | g
        · exact g
        · rw [g, hc0] at hc; cases hc
      refine ih (w + 1) N (by omega) (by omega) (by omega) (by omega) fun w' a1 a2 => ?_
      by_cases e : w' = w
      · rw [e]; exact hc
      · exact hall w' a1 (by omega)
theorem nil_law (W : Int) (h1 : 5 ≤ W) (h2 : W ≤ 24) (code : List UInt8) (N : Nat) (hN : 1000 < N) : s_A2Breaks N code [] W = some [] ∧ i_BestBreaks N [] W = some ([], 0, 0) ∧ i_BadnessOf N [] W [] = some (0, 0) ∧ i_FirstBreaks N [] W = some ([], 0) ∧ i_FewestLines N [] W = some (0, 0) := by
  have h : TW ([] : List Str) := ⟨by simp, fun x hx => by cases hx⟩
  obtain ⟨M, rfl⟩ : ∃ M, N = M + 2 := ⟨N - 2, by omega⟩
  have hv := (vt_ok h W (by omega) (by omega) (M + 2) (by omega)).1
  have hf : fits [] W = true := rfl
  rw [hf] at hv
  have hfi := first_ok h W (M + 2) (by omega)
  have hsf := sfirst_ok h W (M + 2) (by omega)
  have h0 : toI (FB [] W) = [] := rfl
  rw [h0] at hfi hsf
  refine ⟨?_, ?_, ?_, ?_, ?_⟩
  · unfold s_A2Breaks
    rw [fromA, Option.bind_some, hsf, Option.bind_some, withK_n, s_A2Breaks_l1]
    rfl
  · unfold i_BestBreaks
    rw [hv, Option.bind_some, Bool.not_true, cond_false]
    have hm : mk (w64 ((([] : List Str).length : Int) + 1)) (0 : Int) = some [0] := rfl
    rw [hm, Option.bind_some, Option.bind_some, withK_n]
    have e : w64 ((([] : List Str).length : Int) - 1) = -1 := rfl
    rw [e, i_BestBreaks_l1]
    have e2 : decide ((-1 : Int) ≥ 0) = false := rfl
    rw [e2, cond_false, withK_n, i_BestBreaks_l3]
    rfl
  · unfold i_BadnessOf i_linesCode i_areBreaks
    have hlb : i_linesBy (M + 2) [] [] = some [] := rfl
    rw [hv, Option.bind_some, Bool.not_true, cond_false, withK_n, i_areBreaks_l1]
    have e : decide ((0 : Int) < (([] : List Int).length : Int)) = false := rfl
    rw [e, cond_false, Option.bind_some, Bool.not_true, cond_false, withK_n, hlb, Option.bind_some, i_linesCode_l1]
    have e2 : decide ((0 : Int) < (([] : List (List Str)).length : Int)) = false := rfl
    rw [e2, cond_false, Option.bind_some, show ((0 : Int) != 0) = false from rfl, cond_false, Option.bind_some, withK_n, i_BadnessOf_l1]
    rfl
  · unfold i_FirstBreaks
    rw [hv, Option.bind_some, Bool.not_true, cond_false, hfi, Option.bind_some]
  · unfold i_FewestLines i_fewestLines
    rw [hv, Option.bind_some]
    rfl
theorem law_FnBreaks (code more : List UInt8) (_ : wfL wfByte code) (_ : wfL wfByte more) : ∃ N, w_FnBreaks N code more = some true := by
  refine ⟨20000, ?_⟩
  obtain ⟨N, hN⟩ : ∃ N, N = 20000 := ⟨_, rfl⟩
  rw [← hN]
  unfold w_FnBreaks
  have hw : ∃ q, w_a2Long code more = some q := by
    unfold w_a2Long
    simp only [orO_some, Option.bind_some]
    exact ⟨_, rfl⟩
  obtain ⟨q, hq⟩ := hw
  rw [hq, Option.bind_some]
  cases q
  case true => rfl
  rw [cond_false]
  obtain ⟨ws, W, e1, h, w1, w2, hf⟩ := words_ok code N (by omega)
  have hl := h.1
  rw [e1, Option.bind_some]
  dsimp only
  by_cases hne : ws = []
  · subst hne
    obtain ⟨n1, n2, n3, n4, n5⟩ := nil_law W w1 w2 more N (by omega)
    rw [n1, Option.bind_some, n2, Option.bind_some]
    dsimp only
    rw [n3, Option.bind_some, Option.bind_some, n4, Option.bind_some]
    dsimp only
    rw [n3, Option.bind_some, n5, Option.bind_some]
    rfl
  · have hpos : 0 < ws.length := List.length_pos_iff.2 hne
    obtain ⟨dr, e2, hdr⟩ := breaks_ok h W hpos hf more N (by omega)
    obtain ⟨bs, c, e3, hbs, hc, hmin⟩ := best_ok h W (by omega) (by omega) hf hpos N (by omega)
    have hfb := FB_pth W hpos hf
    have hopt := FB_opt W hdr
    have b1 := bad_ok h W (by omega) (by omega) hf bs hbs N (by omega)
    have b2 := bad_ok h W (by omega) (by omega) hf dr hdr N (by omega)
    have b3 := bad_ok h W (by omega) (by omega) hf (FB ws W) hfb N (by omega)
    have hle := hmin dr hdr
    have hfirst : i_FirstBreaks N ws W = some (toI (FB ws W), 0) := by
      unfold i_FirstBreaks
      rw [(vt_ok h W (by omega) (by omega) N (by omega)).1, fits_of hf, Option.bind_some, Bool.not_true, cond_false, first_ok h W N (by omega), Option.bind_some]
    have hfew := fewest_ok h hpos W (by omega) (by omega) N (by omega)
    rw [fits_of hf, cond_true] at hfew
    rw [e2, Option.bind_some, e3, Option.bind_some]
    dsimp only
    rw [b1, Option.bind_some, b2, Option.bind_some, hfirst, Option.bind_some]
    dsimp only
    rw [b3, Option.bind_some, hfew, Option.bind_some, hc]
    dsimp only
    have z0 : ((0 : Int) != 0) = false := rfl
    have zc : (c != c) = false := by simp
    have d1 : decide (bd (PW ws) W 0 dr < c) = false := decide_eq_false (by omega)
    have e0 : ((ws.length : Int) == 0) = false := by rw [beq_eq_false_iff_ne]; omega
    simp only [z0, zc, d1, e0, orO_false, Option.bind_some, cond_false]
    have hfl := fb_len (PW ws) W ws.length 0 0
    have hdl := hdr.len
    have ht1 : (toI (FB ws W)).length = (FB ws W).length := by simp [toI]
    have ht2 : (toI dr).length = dr.length := by simp [toI]
    have hFl : (FB ws W).length ≤ ws.length := hfl
    have k1 : (w64 (((toI (FB ws W)).length : Int) + 1) != (((FB ws W).length + 1 : Nat) : Int)) = false := by
      rw [ht1, w64_nat _ (by omega)]; simp
    have k2 : decide (w64 (((toI dr).length : Int) + 1) < (((FB ws W).length + 1 : Nat) : Int)) = false := decide_eq_false (by
      rw [ht2, w64_nat _ (by omega)]; omega)
    rw [k1, k2, orO_false, Option.bind_some, cond_false]
    obtain ⟨wn, hwn⟩ := Int.eq_ofNat_of_zero_le (show 0 ≤ W by omega)
    have hc0 : chk ws ((FB ws W).length + 1) wn = true := by
      unfold chk
      rw [← show W = (wn : Int) from hwn, fits_of hf, decide_eq_true (Nat.le_refl _)]; rfl
    obtain ⟨r, r1, r2, r3, r4, r5⟩ := lw_l1 h hpos ((FB ws W).length + 1) (some (0, 5)) wn (by omega) hc0 80 1 N (by omega) (by omega) (Nat.le_refl _) (by omega) fun w' a1 a2 => by omega
    have hlw : i_LeastWidth N ws (((FB ws W).length + 1 : Nat) : Int) = some ((r : Int), 0) := by
      unfold i_LeastWidth i_between
      have h80 : ∀ x ∈ ws, (x.length : Int) ≤ 80 := fun x hx => by have := (h.2 x hx).2.1; omega
      have hFlt : (FB ws W).length + 1 ≤ 40 := by
        have := hfb.len
        omega
      rw [(vt_ok h 80 (by omega) (by omega) N (by omega)).1, fits_of h80, Option.bind_some, Bool.not_true, cond_false, decide_eq_true (by omega : (((FB ws W).length + 1 : Nat) : Int) ≥ 1), andO_true, Option.bind_some, Option.bind_some, decide_eq_true (by omega), Bool.not_true, cond_false, withK_n]
      exact r3
    unfold chk at r4
    rw [Bool.and_eq_true, decide_eq_true_eq] at r4
    have hfr := fewest_ok h hpos (r : Int) (by omega) (by omega) N (by omega)
    rw [r4.1, cond_true] at hfr
    rw [hlw, Option.bind_some]
    dsimp only
    have d2 : decide ((r : Int) < 1) = false := decide_eq_false (by omega)
    have d3 : decide ((r : Int) > W) = false := decide_eq_false (by omega)
    have d4 : decide ((((FB ws (r : Int)).length + 1 : Nat) : Int) > (((FB ws W).length + 1 : Nat) : Int)) = false := decide_eq_false (by omega)
    rw [z0, d2, orO_false, Option.bind_some, d3, orO_false, Option.bind_some, cond_false, hfr, Option.bind_some]
    dsimp only
    rw [z0, d4, orO_false, Option.bind_some, cond_false]
    by_cases hr1 : r = 1
    · subst hr1; rfl
    · have d5 : ((r : Int) == 1) = false := by rw [beq_eq_false_iff_ne]; omega
      have hwr : w64 ((r : Int) - 1) = ((r - 1 : Nat) : Int) := by rw [w64_id (by omega) (by omega)]; omega
      have hs := sfew_ok h hpos ((r - 1 : Nat) : Int) (by omega) (by omega) N (by omega)
      have hno := r5 (r - 1) (by omega) (by omega)
      rw [d5, cond_false, hwr, hs, Option.bind_some]
      unfold chk at hno
      cases hff : fits ws ((r - 1 : Nat) : Int) with
      | false => rfl
      | true =>
        rw [hff, Bool.true_and, decide_eq_false_iff_not] at hno
        rw [cond_true]
        dsimp only
        rw [show ((0 : Int) == 1) = false from rfl, show ((0 : Int) == 0) = true from rfl, andO_true, Option.bind_some, orO_false, Option.bind_some, decide_eq_true (by omega)]
end Go.Proofs.Ytlmpbacboapkaaa
