/-
  Plain lemmas on these functions. No conditions but those that each states.
-/
import Derived.Test.YtimcachjcocjmaaFnRowPlansP7
namespace Go.Proofs.Ytimcachjcocjmaa
set_option linter.unusedVariables false
set_option linter.unusedSimpArgs false
/-! Draws, and the law. -/
theorem stops_l1 (code : List UInt8) (kj : List Int → Option (List Int)) : ∀ (n N : Nat) (a sd : Int) (l : List Int) (at_ : Int), n < N → 0 ≤ a → a + 4 * n ≤ 10000 → l.length + n ≤ 3 → 0 ≤ at_ → at_ + 7 * n ≤ 21 → (∀ i, ∀ h : i < l.length, 1 ≤ l[i] ∧ l[i] ≤ at_) → (∀ i, ∀ h : i + 1 < l.length, l[i] < l[i + 1]) →
    ∃ l', s_A2Stops_l1 kj code N a sd l at_ (n : Int) = kj l' ∧ VS l' ∧ ∀ i, ∀ h : i + 1 < l'.length, l'[i] < l'[i + 1] := by
  have hb : BIG = 1152921504606846976 := rfl
  intro n
  induction n with
  | zero =>
    intro N a sd l at_ hN h0 h1 h2 h3 h4 h5 h6
    obtain ⟨N, rfl⟩ := pos_fuel hN
    exact ⟨l, by simp [s_A2Stops_l1], ⟨by omega, fun i h => by have := h5 i h; omega⟩, h6⟩
  | succ n ih =>
    intro N a sd l at_ hN h0 h1 h2 h3 h4 h5 h6
    obtain ⟨N, rfl⟩ := pos_fuel hN
    have hi : ((n + 1 : Nat) : Int) > 0 := by omega
    obtain ⟨v, a1, s1, e1, b1, c1, d1, d2⟩ := pick_ok code a sd 7 h0 (by omega)
    have d2 := d2 (by omega)
    have e2 : w64 (((n + 1 : Nat) : Int) - 1) = (n : Int) := by rw [w64_id (by omega) (by omega)]; omega
    have e3 : w64 (at_ + w64 (1 + v)) = at_ + (1 + v) := by rw [w64_id (x := 1 + v) (by omega) (by omega), w64_id (by omega) (by omega)]
    obtain ⟨l', g1, g2⟩ := ih N a1 s1 (l ++ [at_ + (1 + v)]) (at_ + (1 + v)) (by omega) (by omega) (by omega) (by simp; omega) (by omega) (by omega) (fun i h => by
        simp at h
        by_cases c : i < l.length
        · rw [List.getElem_append_left c]; have := h5 i c; omega
        · obtain rfl : i = l.length := by omega
          simp; omega) (fun i h => by
        simp at h
        by_cases c : i + 1 < l.length
        · rw [List.getElem_append_left (by omega), List.getElem_append_left c]; exact h6 i c
        · have ei : i + 1 = l.length := by omega
          rw [List.getElem_append_left (by omega), List.getElem_append_right (by omega)]
          simp
          have := h5 i (by omega)
          omega)
    refine ⟨l', ?_, g2⟩
    simp only [s_A2Stops_l1, hi, decide_true, cond_true, e1, Option.bind_some, e2, e3]
    rw [app_some _ _ (by unfold LIM; simp; omega), Option.bind_some, g1]
theorem A2Stops_ok (N : Nat) (code : List UInt8) (hN : 10 ≤ N) : ∃ l, s_A2Stops N code = some l ∧ VS l ∧ ∀ i, ∀ h : i + 1 < l.length, l[i] < l[i + 1] := by
  have hb : BIG = 1152921504606846976 := rfl
  have e0 : s_l00From code = some ⟨code, 0, 0⟩ := rfl
  obtain ⟨v, a1, s1, e1, b1, c1, d1, d2⟩ := pick_ok code 0 0 4 (by omega) (by omega)
  have d2 := d2 (by omega)
  obtain ⟨l, g1, g2⟩ := stops_l1 code some v.toNat N a1 s1 [] 0 (by omega) (by omega) (by omega) (by simp; omega) (by omega) (by omega) (fun i h => by simp at h) (fun i h => by simp at h)
  rw [show ((v.toNat : Nat) : Int) = v by omega] at g1
  refine ⟨l, ?_, g2⟩
  simp only [s_A2Stops, e0, Option.bind_some, withK_eq, e1, g1]
/-- a row with so many letters -/
def RowD (row : Str) (k : Nat) : Prop := row.length ≤ 7 * k ∧ Row row ∧ more_ row 0 ≤ k
theorem blanks_l2 (kj : Int → Int → Str → Option Str) (r : Int × L00Src) : ∀ (n N : Nat) (l : Str), n < N → l.length + n ≤ 1000 → s_A2Row_l2 kj r N l (n : Int) = kj r.2.at_ r.2.seed (l ++ List.replicate n 32) := by
  intro n
  induction n with
  | zero =>
    intro N l hN _
    obtain ⟨N, rfl⟩ := pos_fuel hN
    simp [s_A2Row_l2]
  | succ n ih =>
    intro N l hN hl
    obtain ⟨N, rfl⟩ := pos_fuel hN
    have hi : ((n + 1 : Nat) : Int) > 0 := by omega
    have e2 : w64 (((n + 1 : Nat) : Int) - 1) = (n : Int) := by rw [w64_id (by omega) (by omega)]; omega
    simp only [s_A2Row_l2, hi, decide_true, cond_true, e2]
    rw [app_some _ _ (by unfold LIM; simp; omega), Option.bind_some, ih N _ (by omega) (by simp; omega), List.append_assoc]
    rfl
theorem rowD_more (l : Str) (k q : Nat) (c : UInt8) (h : RowD l k) (hk : k < 3) (hq : q ≤ 6) (hc : 33 ≤ c ∧ c ≤ 126) : RowD (l ++ List.replicate q 32 ++ [c]) (k + 1) := by
  obtain ⟨h1, ⟨h2, h3, h4⟩, h5⟩ := h
  have hc32 : c ≠ 32 := by rintro rfl; exact absurd hc.1 (by decide)
  refine ⟨by simp; omega, ⟨by simp; omega, fun x hx => ?_, fun hp => ?_⟩, ?_⟩
  · simp only [List.mem_append, List.mem_replicate, List.mem_singleton] at hx
    rcases hx with (hx | ⟨_, rfl⟩) | rfl
    · exact h3 x hx
    · exact .inl rfl
    · exact .inr hc
  · rw [List.getElem_append_right (by simp)]
    simp [hc32]
  · unfold more_ at h5 ⊢
    have hb : (c != 32) = true := by simpa using hc32
    have hz : (List.replicate q (32 : UInt8)).filter (fun c => c != 32) = [] := by simp
    rw [List.drop_zero] at h5 ⊢
    rw [List.filter_append, List.filter_append, hz, List.append_nil, List.length_append]
    simp [hb]
    exact h5
theorem row_l1 (code : List UInt8) (kj : Str → Option Str) : ∀ (n k N : Nat) (a sd : Int) (l : Str), n + 20 < N → 0 ≤ a → a + 10 * n ≤ 10000 → k + n ≤ 3 → RowD l k →
    ∃ l', s_A2Row_l1 kj code N a sd l (n : Int) = kj l' ∧ RowD l' 3 := by
  have hb : BIG = 1152921504606846976 := rfl
  intro n
  induction n with
  | zero =>
    intro k N a sd l hN h0 h1 h2 h3
    obtain ⟨N, rfl⟩ := pos_fuel (show 0 < N by omega)
    exact ⟨l, by simp [s_A2Row_l1], by have := h3.1; omega, h3.2.1, by have := h3.2.2; omega⟩
  | succ n ih =>
    intro k N a sd l hN h0 h1 h2 h3
    obtain ⟨N, rfl⟩ := pos_fuel (show 0 < N by omega)
    have hi : ((n + 1 : Nat) : Int) > 0 := by omega
    obtain ⟨v, a1, s1, e1, b1, c1, d1, d2⟩ := pick_ok code a sd 7 h0 (by omega)
    have d2 := d2 (by omega)
    obtain ⟨u, a2, s2, e2, b2, c2, f1, f2⟩ := pick_ok code a1 s1 6 (by omega) (by omega)
    have f2 := f2 (by omega)
    have e3 : w64 (((n + 1 : Nat) : Int) - 1) = (n : Int) := by rw [w64_id (by omega) (by omega)]; omega
    have hl7 := h3.1
    obtain ⟨c, hc1, hc2⟩ : ∃ c, idx ([97, 98, 99, 39, 35, 62] : Str) u = some c ∧ 33 ≤ c ∧ c ≤ 126 := by
      refine ⟨_, idx_int _ u f1 (by simpa using f2), ?_⟩
      have : ∀ c ∈ ([97, 98, 99, 39, 35, 62] : Str), 33 ≤ c ∧ c ≤ 126 := by decide
      exact this _ (List.getElem_mem _)
    obtain ⟨l', g1, g2⟩ := ih (k + 1) N a2 s2 (l ++ List.replicate v.toNat 32 ++ [c]) (by omega) (by omega) (by omega) (by omega) (rowD_more l k v.toNat c h3 (by omega) (by omega) hc2)
    refine ⟨l', ?_, g2⟩
    have hbl := fun kj => blanks_l2 kj (v, ⟨code, a1, s1⟩) v.toNat N l (by omega) (by omega)
    rw [show ((v.toNat : Nat) : Int) = v by omega] at hbl
    simp only [s_A2Row_l1, hi, decide_true, cond_true, withK_eq, e1, Option.bind_some, hbl, e2, hc1, e3]
    rw [app_some _ _ (by unfold LIM; simp; omega), Option.bind_some, g1]
theorem A2Row_ok (N : Nat) (code : List UInt8) (hN : 30 ≤ N) : ∃ l, s_A2Row N code = some l ∧ RowD l 3 := by
  have hb : BIG = 1152921504606846976 := rfl
  have e0 : s_l00From code = some ⟨code, 0, 0⟩ := rfl
  obtain ⟨v, a1, s1, e1, b1, c1, d1, d2⟩ := pick_ok code 0 0 4 (by omega) (by omega)
  have d2 := d2 (by omega)
  obtain ⟨l, g1, g2⟩ := row_l1 code some v.toNat 0 N a1 s1 [] (by omega) (by omega) (by omega) (by omega) ⟨by simp, ⟨by simp, by simp, fun h => by simp at h⟩, by simp [more_]⟩
  rw [show ((v.toNat : Nat) : Int) = v by omega] at g1
  refine ⟨l, ?_, g2⟩
  simp only [s_A2Row, e0, Option.bind_some, withK_eq, e1, g1]
theorem RowPlan_ok (stops : List Int) (hs : VS stops) (hri : ∀ i, ∀ h : i + 1 < stops.length, stops[i] < stops[i + 1]) (row : Str) (hr : RowD row 3) :
    ∃ l, (∀ N : Nat, 600 ≤ N → i_rowPlan N stops row = some (flat l, (total l : Int)) ∧ i_RowPlan N stops row = some (flat l, 0) ∧ i_RunPlan N stops (flat l) = some (row, 0) ∧ i_PlanMoves N (flat l) = some ((total l : Int), 0)) ∧ total l ≤ 100 ∧ (flat l).length ≤ 200 ∧ Segs stops row 0 0 l ∧ l.length ≤ 3 := by
  obtain ⟨l, e, hseg, hlen, htot⟩ := rowPlan_ok stops hs row hr.2.1
  have h3 := hr.2.2
  have hfl := flat_length l
  refine ⟨l, fun N hN => ?_, by omega, by omega, hseg, by omega⟩
  have e := e N (by omega)
  have ev := validStops_ok N stops hs hri (by omega)
  have er := isRow_ok N row hr.2.1 (by omega)
  have hg : ¬ (((flat l).length : Nat) : Int) > 200 := by omega
  refine ⟨e, ?_, ?_, ?_⟩
  · unfold i_RowPlan
    simp only [ev, Option.bind_some, Bool.not_true, cond_false, er, e]
  · have := run_segs stops hs row hr.2.1 (flat l) (by omega) (fun l10 => some (l10, 0)) hseg 0 N (by simp) (Nat.le_refl _) (fun j h1 h2 => by omega) (by omega)
    rw [show ((0 : Nat) : Int) = 0 from rfl, List.take_zero] at this
    unfold i_RunPlan
    simp only [ev, Option.bind_some, Bool.not_true, cond_false, hg, decide_false, withK_eq, this]
  · have := pm_segs stops row hr.2.1 (flat l) (by omega) (fun moves3 => some (moves3, 0)) hseg 0 N 0 (by simp) (by omega) (by omega)
    rw [show ((0 : Nat) : Int) = 0 from rfl, Nat.zero_add] at this
    unfold i_PlanMoves
    simp only [hg, decide_false, cond_false, withK_eq, this]
theorem PageMoves_ok (N : Nat) (stops : List Int) (hs : VS stops) (hri : ∀ i, ∀ h : i + 1 < stops.length, stops[i] < stops[i + 1]) (a b : Str) (ha : Row a) (hb : Row b) (x y : Nat) (p q : Str) (hx : ∀ M, N ≤ M + 3 → i_rowPlan M stops a = some (p, (x : Int))) (hy : ∀ M, N ≤ M + 3 → i_rowPlan M stops b = some (q, (y : Int))) (hxy : x + y ≤ 1000) (hN : 600 ≤ N) :
    i_PageMoves N stops [a, b] = some (((x + y : Nat) : Int), 0) := by
  obtain ⟨M, rfl⟩ : ∃ M, N = M + 1 + 1 + 1 := ⟨N - 3, by omega⟩
  have i0 : idx [a, b] 0 = some a := rfl
  have i1 : idx [a, b] 1 = some b := rfl
  have w1 : w64 (0 + 1) = 1 := rfl
  have w2 : w64 (1 + 1) = 2 := rfl
  have d0 : decide ((0 : Int) < (([a, b] : List Str).length : Int)) = true := rfl
  have d1 : decide ((1 : Int) < (([a, b] : List Str).length : Int)) = true := rfl
  have d2 : decide ((2 : Int) < (([a, b] : List Str).length : Int)) = false := rfl
  have s1 : w64 (0 + (x : Int)) = (x : Int) := by rw [w64_id (by omega) (by omega)]; omega
  have s2 : w64 ((x : Int) + (y : Int)) = ((x + y : Nat) : Int) := by rw [w64_id (by omega) (by omega)]; omega
  unfold i_PageMoves i_pageMoves
  simp only [validStops_ok _ stops hs hri (by omega : 20 ≤ M + 1 + 1 + 1), rowsCode_ok _ a b ha hb (by omega : 200 ≤ M + 1 + 1 + 1), Option.bind_some, Bool.not_true, cond_false, bne_self_eq_false, withK_eq, i_pageMoves_l1, d0, cond_true, i0, hx (M + 1 + 1) (by omega), s1, w1, d1, i1, hy (M + 1) (by omega), s2, w2, d2]
theorem law_FnRowPlans (code more : List UInt8) (_ : wfL wfByte code) (_ : wfL wfByte more) : ∃ N, w_FnRowPlans N code more = some true := by
  refine ⟨2000, ?_⟩
  obtain ⟨N, hN⟩ : ∃ N, N = 2000 := ⟨_, rfl⟩
  rw [← hN]
  unfold w_FnRowPlans w_a2Long
  rw [orO_some, Option.bind_some, Option.bind_some]
  cases (decide ((code.length : Int) > 3000) || decide ((more.length : Int) > 3000))
  case true => rfl
  rw [cond_false]
  obtain ⟨stops, x1, hs, hri⟩ := A2Stops_ok N code (by omega)
  obtain ⟨a, x2, ha⟩ := A2Row_ok N code (by omega)
  obtain ⟨b, x3, hb⟩ := A2Row_ok N more (by omega)
  obtain ⟨l, e, e5, e6, e7, e8⟩ := RowPlan_ok stops hs hri a ha
  obtain ⟨l', f, f5, f6, f7, f8⟩ := RowPlan_ok stops hs hri b hb
  obtain ⟨e1, e2, e3, e4⟩ := e N (by omega)
  obtain ⟨f1, f2, f3, f4⟩ := f N (by omega)
  have hp := PageMoves_ok N stops hs hri a b ha.2.1 hb.2.1 (total l) (total l') (flat l) (flat l') (fun M hM => (e M (by omega)).1) (fun M hM => (f M (by omega)).1) (by omega) (by omega)
  obtain ⟨out, g1, g2, g3, g4⟩ := startsOf_ok N a b ha.2.1 hb.2.1 (by omega)
  have hri2 := rises_ok N out g2 g3 (by omega)
  have hw : w64 ((total l : Int) + (total l' : Int)) = ((total l + total l' : Nat) : Int) := by rw [w64_id (by omega) (by omega)]; omega
  have hsg := wl_segs stops a ha.2.1 (flat l, 0) (by show (flat l).length ≤ 1000; omega) (fun (x64 : Str) => w_FnRowPlans_l2 (fun (x84 : Str) => some (x64 == x84)) a (out, 0) N [] 0) e7 0 N [] (by simp) (by show (flat l).length + 200 ≤ N + 0 ∧ 0 ≤ (flat l).length; omega) (by simp; omega)
  have hl2 := fun kj => w_l2 a ha.2.1 (out, 0) g3 g4 kj a.length 0 N [] (by omega) (by have := ha.1; omega) (by have := ha.1; simp; omega)
  rw [show ((0 : Nat) : Int) = 0 from rfl] at hsg hl2
  simp only [x1, x2, x3, Option.bind_some, e2, e3, e4, f2, f4, hp, g1, bne_self_eq_false, orO_some, Bool.or_self, hw, hri2, Bool.not_true, cond_false, withK_eq]
  rw [hsg, hl2]
  simp
end Go.Proofs.Ytimcachjcocjmaa
