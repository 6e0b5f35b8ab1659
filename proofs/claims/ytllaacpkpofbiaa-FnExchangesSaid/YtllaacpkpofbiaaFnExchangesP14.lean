/-
  Plain lemmas on these functions. No conditions but those that each states.
-/
import Derived.Test.YtllaacpkpofbiaaFnExchangesP13
namespace Go.Proofs.Ytllaacpkpofbiaa
set_option linter.unusedVariables false
set_option linter.unusedSimpArgs false
/-! The draw. -/
theorem ot_l1 (kj : Str → Option (Layout × Layout)) (r : Layout × L00Src) (hr : BL r.1) : ∀ (q x N : Nat) (a : Str), x + q = r.1.rows.length → q < N → a.length ≤ 14 * x → ∃ s : Str, s.length ≤ 100 ∧ s_l06Other_l1 kj r N a (x : Int) = kj s := by
  have h5 := hr.1
  intro q
  induction q with
  | zero =>
    intro x N a hx hN ha
    obtain ⟨N, rfl⟩ := pos_fuel hN
    rw [s_l06Other_l1, decide_eq_false (by omega), cond_false]
    exact ⟨a, by omega, rfl⟩
  | succ q ih =>
    intro x N a hx hN ha
    obtain ⟨N, rfl⟩ := pos_fuel hN
    have hlt : x < r.1.rows.length := by omega
    have hw := hr.2 _ (List.getElem_mem hlt)
    rw [s_l06Other_l1, decide_eq_true (by omega), cond_true, idx_lt _ x hlt, Option.bind_some, cat_some _ _ (by unfold LIM; omega), Option.bind_some, w64_nat x (by omega)]
    exact ih (x + 1) N _ (by omega) (by omega) (by rw [List.length_append]; omega)
theorem BL_chg {l : List Str} (h : BL (Layout.mk l)) (a b : UInt8) : BL (Layout.mk (chg a b l)) := by
  refine ⟨?_, fun w hw => ?_⟩
  · show (l.map _).length ≤ 5
    rw [List.length_map]; exact h.1
  · obtain ⟨v, hv, rfl⟩ := List.mem_map.1 hw
    rw [List.length_map]; exact h.2 v hv
theorem ot_l2 {code : List UInt8} (all : Str) (hall : all.length ≤ 100) (kj : Int → Int → List Str → Option (Layout × Layout)) (Q : Layout × Layout → Prop) : ∀ (n N : Nat) (a sd hi : Int) (l : List Str), n + 300 < N → 0 ≤ a → a ≤ hi → hi + 4 * n ≤ 1000000 → BL (Layout.mk l) → (∀ a' sd' l', 0 ≤ a' → a' ≤ hi + 4 * n → BL (Layout.mk l') → ∃ r, kj a' sd' l' = some r ∧ Q r) → ∃ r, s_l06Other_l2 kj code all N a sd l (n : Int) = some r ∧ Q r := by
  intro n
  induction n with
  | zero =>
    intro N a sd hi l hN h0 h1 h2 hl k
    obtain ⟨N, rfl⟩ := pos_fuel (show 0 < N by omega)
    have hz : ¬ ((0 : Nat) : Int) > 0 := by omega
    rw [s_l06Other_l2, decide_eq_false hz, andO_false, Option.bind_some, cond_false]
    exact k a sd l h0 (by omega) hl
  | succ n ih =>
    intro N a sd hi l hN h0 h1 h2 hl k
    obtain ⟨N, rfl⟩ := pos_fuel (show 0 < N by omega)
    have hz : ((n + 1 : Nat) : Int) > 0 := by omega
    have e2 : w64 (((n + 1 : Nat) : Int) - 1) = (n : Int) := by rw [w64_id (by omega) (by omega)]; omega
    rw [s_l06Other_l2, decide_eq_true hz, andO_some, Option.bind_some, Bool.true_and, e2]
    refine condE (fun hne => ?_) fun _ => k a sd l h0 (by omega) hl
    have hpos : 0 < all.length := by
      rw [bne_iff_ne] at hne
      exact List.length_pos_iff.2 hne
    refine bindE (pickA (code := code) (hi := hi) (s := L00Src.mk code a sd) (all.length : Int) ⟨rfl, h0, h1⟩ (by omega)) fun v1 k1 => ?_
    refine bindE (pickA (code := code) (hi := hi + 2) (s := L00Src.mk code v1.2.at_ v1.2.seed) (all.length : Int) ⟨rfl, k1.1.2⟩ (by omega)) fun v2 k2 => ?_
    have c1 := k1.2.2 (by omega)
    have c2 := k2.2.2 (by omega)
    have b1 := k1.2.1
    have b2 := k2.2.1
    have i1 : idx all v1.1 = some (all[v1.1.toNat]'(by omega)) := idx_int all _ b1 (by omega)
    have i2 : idx all v2.1 = some (all[v2.1.toNat]'(by omega)) := idx_int all _ b2 (by omega)
    have hb := BL.b hl
    rw [i1, Option.bind_some, i2, Option.bind_some, (change_ok _ _ l hb.1 hb.2 N (by omega)).2, Option.bind_some]
    exact ih N _ _ (hi + 4) _ (by omega) k2.1.2.1 (by have := k2.1.2.2; omega) (by omega) (BL_chg hl _ _) fun a' sd' l' w1 w2 w3 => k a' sd' l' w1 (by omega) w3
theorem draw2 (code : List UInt8) (N : Nat) (hN : 1000 < N) : ∃ r, s_DrawExchangePlan N code = some r ∧ BL r.1 ∧ BL r.2 := by
  unfold s_DrawExchangePlan
  refine bindE (P := fun v => BL v.1 ∧ BL v.2) ?_ fun v g => ⟨_, rfl, g.1, g.2⟩
  unfold s_l06Other
  rw [fromA, Option.bind_some]
  refine bindE (bent_ok (code := code) (hi := 0) (s := L00Src.mk code 0 0) ⟨rfl, Int.le_refl _, Int.le_refl _⟩ (by omega) N (by omega)) fun r9 g9 => ?_
  have h5 := g9.2.1
  refine appE (by unfold LIM; simp; omega) ?_
  simp only [withK_n]
  obtain ⟨s, hs, e⟩ := ot_l1 (fun all21 => (s_l00Src_pick (L00Src.mk code r9.2.at_ r9.2.seed) 6).bind fun r37 => s_l06Other_l2 (fun x31 x32 l33 => (s_l00Src_one (L00Src.mk code x31 x32) 6).bind fun r64 => bif r64.1 then (s_l06Bent N (L00Src.mk code r64.2.at_ r64.2.seed)).bind fun r67 => some ((Layout.mk r9.1.rows), (Layout.mk r67.1.rows)) else some ((Layout.mk r9.1.rows), (Layout.mk l33))) code all21 N r37.2.at_ r37.2.seed ([] ++ r9.1.rows) r37.1) r9 g9.2 r9.1.rows.length 0 N [] (by omega) (by omega) (by simp)
  rw [show ((0 : Nat) : Int) = 0 from rfl] at e
  rw [e]
  refine bindE (pickA (code := code) (hi := 200) (s := L00Src.mk code r9.2.at_ r9.2.seed) 6 ⟨rfl, g9.1.2.1, by have := g9.1.2.2; show r9.2.at_ ≤ 200; omega⟩ (by omega)) fun r37 k => ?_
  have kc := k.2.2 (by omega)
  obtain ⟨p, hp⟩ := Int.eq_ofNat_of_zero_le k.2.1
  rw [hp] at kc ⊢
  refine ot_l2 (code := code) s hs _ (fun v => BL v.1 ∧ BL v.2) p N _ _ 202 _ (by omega) k.1.2.1 (by have := k.1.2.2; omega) (by omega) g9.2 fun a' sd' l' w1 w2 w3 => ?_
  refine bindE (oneA (code := code) (hi := 300) (s := L00Src.mk code a' sd') 6 ⟨rfl, w1, by show a' ≤ 300; omega⟩ (by omega)) fun r64 k4 => ?_
  refine condE (fun _ => ?_) fun _ => ⟨_, rfl, g9.2, w3⟩
  refine bindE (bent_ok (code := code) (hi := 302) (s := L00Src.mk code r64.2.at_ r64.2.seed) ⟨rfl, k4.2.1, by have := k4.2.2; show r64.2.at_ ≤ 302; omega⟩ (by omega) N (by omega)) fun r67 g67 => ⟨_, rfl, g9.2, g67.2⟩
end Go.Proofs.Ytllaacpkpofbiaa
