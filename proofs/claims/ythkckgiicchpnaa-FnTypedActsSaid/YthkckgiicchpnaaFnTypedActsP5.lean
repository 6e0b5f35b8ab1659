/-
  Plain lemmas on these functions. No conditions but those that each states.
-/
import Derived.Test.YthkckgiicchpnaaFnTypedActsP4
namespace Go.Proofs.Ythkckgiicchpnaa
set_option linter.unusedVariables false
set_option linter.unusedSimpArgs false
/-! Drawn carriages and acts. -/
theorem Draw_car {code : List UInt8} {hi : Int} (s : L00Src) (h : SrcAt code hi s) (hb : hi ≤ 1000000) : ∃ v, s_l04Draw s = some v ∧ SrcAt code (hi + 10) v.2 := by
  unfold s_l04Draw
  simp only [withK_eq]
  refine bindE (pickA 20 h (by omega)) fun v1 h1 => ?_
  refine bindE (pickA 20 ⟨h.1, h1.1.2⟩ (by omega)) fun v2 h2 => ?_
  refine bindE (pickA 16 ⟨h.1, h2.1.2⟩ (by omega)) fun v3 h3 => ?_
  refine bindE (pickA 24 ⟨h.1, h3.1.2⟩ (by omega)) fun v4 h4 => ?_
  refine condE (fun _ => ?_) fun _ => condE (fun _ => ?_) fun _ => condE (fun _ => ?_) fun _ => ?_
  · refine bindE (amongA _ (by simp) ⟨h.1, h4.1.2⟩ (by omega)) fun v5 h5 => ⟨_, rfl, h.1, h5.1.2.1, by have := h5.1.2.2; show v5.2.at_ ≤ _; omega⟩
  · refine bindE (amongA _ (by simp) ⟨h.1, h4.1.2⟩ (by omega)) fun v5 h5 => ⟨_, rfl, h.1, h5.1.2.1, by have := h5.1.2.2; show v5.2.at_ ≤ _; omega⟩
  · refine bindE (amongA _ (by simp) ⟨h.1, h4.1.2⟩ (by omega)) fun v5 h5 => ⟨_, rfl, h.1, h5.1.2.1, by have := h5.1.2.2; show v5.2.at_ ≤ _; omega⟩
  · exact ⟨_, rfl, h.1, h4.1.2.1, by have := h4.1.2.2; show v4.2.at_ ≤ _; omega⟩
/-- acts that can be drawn -/
def ActsD (l : List Act) : Prop := l.length ≤ 201 ∧ ∀ a ∈ l, a.letter.length ≤ 2 ∧ -10 ≤ a.kind ∧ a.kind ≤ 10
theorem acts_l1 {code : List UInt8} (s : L00Src) (hs : s.code = code) (kj : Int → Int → List Act → Option (List Act × L00Src)) (Q : List Act × L00Src → Prop) : ∀ (n N : Nat) (a sd hi : Int) (l : List Act), n < N → 0 ≤ a → a ≤ hi → hi + 6 * n ≤ 1100000 → l.length + n ≤ 201 → ActsD l →
    (∀ a' sd' l', 0 ≤ a' → a' ≤ hi + 6 * n → l'.length = l.length + n → ActsD l' → ∃ r, kj a' sd' l' = some r ∧ Q r) → ∃ r, s_l04DrawActs_l1 kj s N a sd l (n : Int) = some r ∧ Q r := by
  intro n
  induction n with
  | zero =>
    intro N a sd hi l hN h0 h1 h2 h3 h4 k
    obtain ⟨N, rfl⟩ := pos_fuel hN
    have hz : ¬ ((0 : Nat) : Int) > 0 := by omega
    simp only [s_l04DrawActs_l1, hz, decide_false, cond_false]
    exact k a sd l h0 (by omega) (by omega) h4
  | succ n ih =>
    intro N a sd hi l hN h0 h1 h2 h3 h4 k
    obtain ⟨N, rfl⟩ := pos_fuel hN
    have hz : ((n + 1 : Nat) : Int) > 0 := by omega
    have e2 : w64 (((n + 1 : Nat) : Int) - 1) = (n : Int) := by rw [w64_id (by omega) (by omega)]; omega
    simp only [s_l04DrawActs_l1, hz, decide_true, cond_true, withK_eq, e2]
    refine bindE (amongA (code := code) (hi := hi) _ (by simp) ⟨hs, h0, h1⟩ (by omega)) fun v1 h5 => ?_
    refine bindE (oneA (code := code) (hi := hi + 2) 20 ⟨hs, h5.1.2⟩ (by omega)) fun v2 h6 => ?_
    have fin : ∀ (a' sd' : Int) (kd : Int) (le : Str), 0 ≤ a' → a' ≤ hi + 6 → le.length ≤ 2 → -10 ≤ kd → kd ≤ 10 → ∃ r, ((app l [Act.mk kd le]).bind fun l53 => s_l04DrawActs_l1 kj s N a' sd' l53 (n : Int)) = some r ∧ Q r := fun a' sd' kd le g1 g2 g3 g4 g5 => by
      refine appE (by unfold LIM; simp; omega) ?_
      refine ih N a' sd' (hi + 6) _ (by omega) g1 g2 (by omega) (by simp; omega) ⟨by simp; omega, fun x hx => ?_⟩ (fun a2 sd2 l2 q1 q2 q3 q4 => k a2 sd2 l2 q1 (by omega) (by simp at q3; omega) q4)
      rcases List.mem_append.1 hx with hx | hx
      · exact h4.2 x hx
      · rw [List.mem_singleton.1 hx]; exact ⟨g3, g4, g5⟩
    have key : ∀ (a' sd' : Int) (kd : Int), 0 ≤ a' → a' ≤ hi + 4 → -10 ≤ kd → kd ≤ 10 → ∃ r, (bif (kd == 0) then (s_l00Src_text (L00Src.mk s.code a' sd') [[97], [98], [45], [47]]).bind fun r50 => (app l [Act.mk ((Act.mk kd []).kind) r50.1]).bind fun l53 => s_l04DrawActs_l1 kj s N r50.2.at_ r50.2.seed l53 (n : Int) else (app l [Act.mk ((Act.mk kd []).kind) ((Act.mk kd []).letter)]).bind fun l53 => s_l04DrawActs_l1 kj s N a' sd' l53 (n : Int)) = some r ∧ Q r := fun a' sd' kd g1 g2 g3 g4 => by
      refine condE (fun _ => ?_) fun _ => ?_
      · refine bindE (textA (code := code) (hi := hi + 4) _ (by simp) ⟨hs, g1, g2⟩ (by omega)) fun v3 h7 => ?_
        have hm : v3.1.length ≤ 2 := by
          have : ∀ x ∈ ([[97], [98], [45], [47]] : List Str), x.length ≤ 2 := by decide
          exact this _ h7.2
        exact fin _ _ _ _ h7.1.2.1 (by have := h7.1.2.2; omega) hm g3 g4
      · exact fin _ _ _ _ g1 (by omega) (by simp) g3 g4
    have hm : -10 ≤ v1.1 ∧ v1.1 ≤ 10 := by
      have : ∀ x ∈ ([0, 0, 0, 1, 2, 3, 5] : List Int), -10 ≤ x ∧ x ≤ 10 := by decide
      exact this _ h5.2
    refine condE (fun _ => ?_) fun _ => ?_
    · exact key _ _ 4 h6.2.1 (by have := h6.2.2; omega) (by omega) (by omega)
    · exact key _ _ v1.1 h6.2.1 (by have := h6.2.2; omega) hm.1 hm.2
theorem Draw_acts {code : List UInt8} {hi : Int} (s : L00Src) (h : SrcAt code hi s) (hb : hi ≤ 1000000) (N : Nat) (hN : 300 ≤ N) : ∃ v, s_l04DrawActs N s = some v ∧ SrcAt code (hi + 2000) v.2 ∧ ActsD v.1 := by
  unfold s_l04DrawActs
  simp only [withK_eq]
  refine bindE (pickA 26 h (by omega)) fun v1 h1 => ?_
  refine bindE (oneA 30 ⟨h.1, h1.1.2⟩ (by omega)) fun v2 h2 => ?_
  have main : ∀ (a sd : Int) (q : Nat), 0 ≤ a → a ≤ hi + 6 → q ≤ 201 → ∃ r, s_l04DrawActs_l1 (fun (x18 : Int) (x19 : Int) (l20 : List Act) =>
      bif decide ((q : Int) > 0) then
      (s_l00Src_pick (L00Src.mk s.code x18 x19) (q : Int)).bind fun r62 =>
      (idx l20 r62.1).bind fun e64 =>
      (s_l00Src_pick (L00Src.mk s.code r62.2.at_ r62.2.seed) 30).bind fun r66 =>
      bif (r66.1 == 0) then
      (s_l00Src_among (L00Src.mk s.code r66.2.at_ r66.2.seed) [(-1), 0, 5, 6]).bind fun r70 =>
      some (List.set l20 (Int.toNat r62.1) (Act.mk r70.1 e64.letter), (L00Src.mk s.code r70.2.at_ r70.2.seed))
      else
      bif (r66.1 == 1) then
      (s_l00Src_text (L00Src.mk s.code r66.2.at_ r66.2.seed) [[], [97], [32], [97, 98]]).bind fun r74 =>
      some (List.set l20 (Int.toNat r62.1) (Act.mk e64.kind r74.1), (L00Src.mk s.code r74.2.at_ r74.2.seed))
      else
      some (l20, (L00Src.mk s.code r66.2.at_ r66.2.seed))
      else
      some (l20, (L00Src.mk s.code x18 x19))) s N a sd [] (q : Int) = some r ∧ SrcAt code (hi + 2000) r.2 ∧ ActsD r.1 := fun a sd q g1 g2 g3 => by
    refine acts_l1 s h.1 _ _ q N a sd (hi + 6) [] (by omega) g1 g2 (by omega) (by simp; omega) ⟨by simp, by simp⟩ fun a2 sd2 l2 p1 p2 p3 p4 => ?_
    simp only [List.length_nil, Nat.zero_add] at p3
    refine condE (fun c => ?_) fun _ => ⟨_, rfl, ⟨h.1, p1, by show a2 ≤ _; omega⟩, p4⟩
    have hq : (q : Int) > 0 := of_decide_eq_true c
    refine bindE (pickA (code := code) (hi := hi + 6 + 6 * q) (q : Int) ⟨h.1, p1, p2⟩ (by omega)) fun w1 k1 => ?_
    have hlt := k1.2.2 hq
    rw [idx_int l2 w1.1 k1.2.1 (by omega)]
    simp only [Option.bind_some]
    have hmem := p4.2 _ (List.getElem_mem (show w1.1.toNat < l2.length by have := k1.2.1; omega))
    have hset : ∀ y : Act, (y.letter.length ≤ 2 ∧ -10 ≤ y.kind ∧ y.kind ≤ 10) → ActsD (l2.set w1.1.toNat y) := fun y hy => ⟨by rw [List.length_set]; exact p4.1, fun x hx => by
      rcases List.mem_or_eq_of_mem_set hx with hx | hx
      · exact p4.2 x hx
      · rw [hx]; exact hy⟩
    refine bindE (pickA (code := code) (hi := hi + 8 + 6 * q) 30 ⟨h.1, k1.1.2.1, by have := k1.1.2.2; show w1.2.at_ ≤ _; omega⟩ (by omega)) fun w2 k2 => ?_
    have k22 := k2.1.2.2
    refine condE (fun _ => ?_) fun _ => condE (fun _ => ?_) fun _ => ⟨_, rfl, ⟨h.1, k2.1.2.1, by show w2.2.at_ ≤ _; omega⟩, p4⟩
    · refine bindE (amongA (code := code) (hi := hi + 10 + 6 * q) _ (by simp) ⟨h.1, k2.1.2.1, by show w2.2.at_ ≤ _; omega⟩ (by omega)) fun w3 k3 => ?_
      have : ∀ x ∈ ([-1, 0, 5, 6] : List Int), -10 ≤ x ∧ x ≤ 10 := by decide
      have k33 := k3.1.2.2
      exact ⟨_, rfl, ⟨h.1, k3.1.2.1, by show w3.2.at_ ≤ _; omega⟩, hset _ ⟨hmem.1, this _ k3.2⟩⟩
    · refine bindE (textA (code := code) (hi := hi + 10 + 6 * q) _ (by simp) ⟨h.1, k2.1.2.1, by show w2.2.at_ ≤ _; omega⟩ (by omega)) fun w3 k3 => ?_
      have : ∀ x ∈ ([[], [97], [32], [97, 98]] : List Str), x.length ≤ 2 := by decide
      have k33 := k3.1.2.2
      exact ⟨_, rfl, ⟨h.1, k3.1.2.1, by show w3.2.at_ ≤ _; omega⟩, hset _ ⟨this _ k3.2, hmem.2⟩⟩
  refine condE (fun _ => ?_) fun _ => ?_
  · refine bindE (pickA 2 ⟨h.1, h2.2⟩ (by omega)) fun v3 h3 => ?_
    have h33 := h3.2.2 (by omega)
    have e : w64 (200 + v3.1) = ((200 + v3.1).toNat : Int) := by rw [w64_id (by omega) (by omega)]; have := h3.2.1; omega
    rw [e]
    have := h3.1.2.2
    exact main _ _ _ h3.1.2.1 (by omega) (by omega)
  · have h33 := h1.2.2 (by omega)
    have e : v1.1 = (v1.1.toNat : Int) := by have := h1.2.1; omega
    rw [e]
    have := h2.2.2
    exact main _ _ _ h2.2.1 (by omega) (by omega)
end Go.Proofs.Ythkckgiicchpnaa
