/-
  Plain lemmas on these functions. No conditions but those that each states.
-/
import Derived.Test.YtllaacpkpofbiaaFnExchangesP12
namespace Go.Proofs.Ytllaacpkpofbiaa
set_option linter.unusedVariables false
set_option linter.unusedSimpArgs false
/-! Are rows the same; a plan carried out. -/
theorem sm_l1 (A B : List Str) (hA : A.length ≤ 1000) (hl : A.length = B.length) : ∀ (q x N : Nat), x + q = A.length → q < N →
    w_f6texts_l1 (some true) A B N (x : Int) = some (decide (A.drop x = B.drop x)) ∧ i_SameLayout_l1 (some true) (Layout.mk A) (Layout.mk B) N (x : Int) = some (decide (A.drop x = B.drop x)) ∧ s_SameLayout_l1 (some true) (Layout.mk A) (Layout.mk B) N (x : Int) = some (decide (A.drop x = B.drop x)) := by
  intro q
  induction q with
  | zero =>
    intro x N hx hN
    obtain ⟨N, rfl⟩ := pos_fuel hN
    rw [w_f6texts_l1, i_SameLayout_l1, s_SameLayout_l1, decide_eq_false (by omega : ¬ (x : Int) < (A.length : Int)), cond_false, cond_false, cond_false, List.drop_eq_nil_of_le (show A.length ≤ x by omega), List.drop_eq_nil_of_le (show B.length ≤ x by omega), decide_eq_true rfl]
    exact ⟨rfl, rfl, rfl⟩
  | succ q ih =>
    intro x N hx hN
    obtain ⟨N, rfl⟩ := pos_fuel hN
    have hlt : x < A.length := by omega
    have hltB : x < B.length := by omega
    obtain ⟨g1, g2, g3⟩ := ih (x + 1) N (by omega) (by omega)
    have e1 : idx (Layout.mk A).rows (x : Int) = some A[x] := idx_lt A x hlt
    have e2 : idx (Layout.mk B).rows (x : Int) = some B[x] := idx_lt B x hltB
    rw [w_f6texts_l1, i_SameLayout_l1, s_SameLayout_l1, decide_eq_true (by omega : (x : Int) < (A.length : Int)), cond_true, cond_true, cond_true, e1, e2]
    simp only [Option.bind_some]
    rw [w64_nat x (by omega), g1, g2, g3, List.drop_eq_getElem_cons hlt, List.drop_eq_getElem_cons hltB]
    by_cases e : A[x] = B[x]
    · have h1 : (A[x] != B[x]) = false := by rw [e]; simp
      have h2 : decide (A[x] :: A.drop (x + 1) = B[x] :: B.drop (x + 1)) = decide (A.drop (x + 1) = B.drop (x + 1)) := by
        rw [Bool.eq_iff_iff, decide_eq_true_eq, decide_eq_true_eq, List.cons.injEq]
        exact ⟨fun g => g.2, fun g => ⟨e, g⟩⟩
      rw [h1, h2]
      exact ⟨rfl, rfl, rfl⟩
    · have h1 : (A[x] != B[x]) = true := bne_iff_ne.2 e
      have h2 : decide (A[x] :: A.drop (x + 1) = B[x] :: B.drop (x + 1)) = false := by
        rw [decide_eq_false_iff_not, List.cons.injEq]
        exact fun g => e g.1
      rw [h1, h2]
      exact ⟨rfl, rfl, rfl⟩
theorem same_ok (A B : List Str) (hA : A.length ≤ 1000) (N : Nat) (hN : 1000 < N) : w_f6texts N A B = some (decide (A = B)) ∧ i_SameLayout N (Layout.mk A) (Layout.mk B) = some (decide (A = B)) ∧ s_SameLayout N (Layout.mk A) (Layout.mk B) = some (decide (A = B)) := by
  unfold w_f6texts i_SameLayout s_SameLayout
  by_cases h : A.length = B.length
  · have e : ((A.length : Int) != (B.length : Int)) = false := by rw [h]; simp
    rw [e, cond_false, cond_false, cond_false, withK_n, withK_n, withK_n]
    have := sm_l1 A B hA h A.length 0 N (by omega) (by omega)
    rw [show ((0 : Nat) : Int) = 0 from rfl, List.drop_zero, List.drop_zero] at this
    exact this
  · have e : ((A.length : Int) != (B.length : Int)) = true := by rw [bne_iff_ne]; omega
    have hd : decide (A = B) = false := decide_eq_false fun g => h (by rw [g])
    rw [e, hd]
    exact ⟨rfl, rfl, rfl⟩
theorem flat_inj : ∀ (C B : List Str), C.map List.length = B.map List.length → C.flatten = B.flatten → C = B
  | [], [], _, _ => rfl
  | [], _ :: _, h, _ => by cases h
  | _ :: _, [], h, _ => by cases h
  | w :: C, v :: B, h, e => by
    rw [List.map_cons, List.map_cons] at h
    injection h with h1 h2
    rw [List.flatten_cons, List.flatten_cons] at e
    obtain ⟨e1, e2⟩ := List.append_inj e h1
    rw [e1, flat_inj C B h2 e2]
theorem step_ok (C : List Str) (hV : V C) (a b : UInt8) (ha : a ∈ C.flatten) (hb : b ∈ C.flatten) (N : Nat) (hN : 3000 < N) : s_ExchangeLetters N (Layout.mk C) [a] [b] = some (Layout.mk (chg a b C), 0) := by
  have hc := V_b hV
  unfold s_ExchangeLetters
  have i1 : idx ([a] : Str) 0 = some a := rfl
  have i2 : idx ([b] : Str) 0 = some b := rfl
  obtain ⟨i, k, w, g1, _⟩ := (fo_mem a C).1 ha
  obtain ⟨i', k', w', g2, _⟩ := (fo_mem b C).1 hb
  have f1 : s_l06At N (Layout.mk C).rows a = some ((i : Int), (k : Int)) := by rw [show (Layout.mk C).rows = C from rfl, sat C hc.1 hc.2 _ N (by omega), g1]; rfl
  have f2 : s_l06At N (Layout.mk C).rows b = some ((i' : Int), (k' : Int)) := by rw [show (Layout.mk C).rows = C from rfl, sat C hc.1 hc.2 _ N (by omega), g2]; rfl
  rw [show s_l06Ok N (Layout.mk (Layout.mk C).rows) = some (VL C) from svalid C hc.1 hc.2 N (by omega), (VL_iff C).2 hV, Option.bind_some, Bool.not_true, cond_false, s_letter, s_letter, (V_let hV ha).1, (V_let hV hb).1, Option.bind_some, Option.bind_some, Bool.not_true, orO_some, Option.bind_some, Bool.or_self, cond_false, i1, i2]
  simp only [Option.bind_some]
  rw [f1, f2]
  simp only [Option.bind_some]
  rw [orO_some, Option.bind_some, decide_eq_false (by show ¬ (i : Int) < 0; omega), decide_eq_false (by show ¬ (i' : Int) < 0; omega), Bool.or_self, cond_false, show s_l06Change N (Layout.mk (Layout.mk C).rows) a b = _ from (change_ok a b C hc.1 hc.2 N (by omega)).2, Option.bind_some]
theorem run_ok (B : List Str) (kj : List Str → Option Bool) (r : List Str × Int) (hr : r.1.length ≤ 1000) : ∀ (v pre u : Str) (C : List Str) (i N : Nat), C.flatten = pre ++ u → B.flatten = pre ++ v → u.length = v.length → B.flatten.Nodup → C.map List.length = B.map List.length → V C → (∀ x ∈ B.flatten, x ∈ C.flatten) → r.1.drop i = fp u v → i ≤ r.1.length → v.length + 3100 < N →
    w_FnExchanges_l1 kj r N C (i : Int) = kj B
  | [], pre, u, C, i, N, hC, hB, hu, hn, hs, hV, hsub, hd, hi, hN => by
    obtain ⟨N, rfl⟩ := pos_fuel (show 0 < N by omega)
    have hu0 : u = [] := List.eq_nil_of_length_eq_zero hu
    subst hu0
    have : r.1.length ≤ i := by rw [fp_nil] at hd; exact List.drop_eq_nil_iff.1 hd
    rw [w_FnExchanges_l1, decide_eq_false (by omega), cond_false, flat_inj C B hs (by rw [hC, hB])]
  | c :: v, pre, [], C, i, N, hC, hB, hu, hn, hs, hV, hsub, hd, hi, hN => by cases hu
  | c :: v, pre, d :: u, C, i, N, hC, hB, hu, hn, hs, hV, hsub, hd, hi, hN => by
    rw [List.length_cons] at hN
    rw [fp_cons] at hd
    by_cases e : d = c
    · rw [if_pos e] at hd
      exact run_ok B kj r hr v (pre ++ [c]) u C i N (by rw [hC, e, List.append_assoc]; rfl) (by rw [hB, List.append_assoc]; rfl) (by simpa using hu) hn hs hV hsub hd hi (by omega)
    · obtain ⟨N, rfl⟩ := pos_fuel (show 0 < N by omega)
      rw [if_neg e] at hd
      have hlt : i < r.1.length := by
        by_cases g : i < r.1.length
        · exact g
        · rw [List.drop_eq_nil_of_le (by omega)] at hd; cases hd
      rw [List.drop_eq_getElem_cons hlt] at hd
      injection hd with hd1 hd2
      have hdm : d ∈ C.flatten := by rw [hC]; simp
      have hcm : c ∈ C.flatten := hsub c (by rw [hB]; simp)
      have hnC := hV.2.2
      rw [hC, List.nodup_append] at hnC
      rw [hB, List.nodup_append] at hn
      have hdp : d ∉ pre := fun g => hnC.2.2 d g d List.mem_cons_self rfl
      have hcp : c ∉ pre := fun g => hn.2.2 c g c List.mem_cons_self rfl
      have hsd : sw1 d c d = c := by unfold sw1; rw [if_pos rfl]
      have hflat : (chg d c C).flatten = C.flatten.map (sw1 d c) := by unfold chg; exact flat_map _ _
      have s1 : sub [d, c] 0 1 = some [d] := rfl
      have s2 : sub [d, c] 1 (([d, c] : Str).length : Int) = some [c] := rfl
      have l2 : ((([d, c] : Str).length : Int) != 2) = false := rfl
      rw [w_FnExchanges_l1, decide_eq_true (by omega), cond_true, idx_lt r.1 i hlt, hd1]
      simp only [Option.bind_some]
      rw [l2, cond_false, s1]
      simp only [Option.bind_some]
      rw [s2]
      simp only [Option.bind_some]
      rw [step_ok C hV d c hdm hcm N (by omega)]
      simp only [Option.bind_some]
      rw [w64_nat i (by omega)]
      refine run_ok B kj r hr v (pre ++ [c]) (u.map (sw1 d c)) (chg d c C) (i + 1) N ?_ (by rw [hB, List.append_assoc]; rfl) (by rw [List.length_map]; simpa using hu) (by rw [hB, List.nodup_append]; exact hn) ((chg_len d c C).trans hs) (V_chg hV hdm hcm) (fun x hx => ?_) hd2 hlt (by omega)
      · rw [hflat, hC, List.map_append, List.map_cons, hsd, sw_keep hdp hcp, List.append_assoc]; rfl
      · rw [hflat]
        refine List.mem_map.2 ⟨sw1 d c x, ?_, sw1_sw1 d c x⟩
        unfold sw1
        split
        · exact hcm
        · split
          · exact hdm
          · exact hsub x hx
end Go.Proofs.Ytllaacpkpofbiaa
