/-
  Plain lemmas on these functions. No conditions but those that each states.
-/
import Derived.Test.YtikkolkickclhaaDoorFnRankingsP16
namespace Go.Proofs.YtikkolkickclhaaDoor
set_option linter.unusedVariables false
set_option linter.unusedSimpArgs false
/-! Draws of results. -/
section
variable {code : List UInt8}
theorem dRNew {hi : Int} {s : L00Src} (h : SrcAt code hi s) (hb : hi ≤ 10000) (nm : Str) : ∃ v, s_l22New s nm = some v ∧ SrcAt code (hi + 4) v.2 := by
  have e1 := h.1
  unfold s_l22New
  refine bindE (pickA (hi := hi) 12 h (by omega)) fun v1 h1 => ?_
  refine bindE (pickA (hi := hi + 2) 4 ⟨e1, h1.1.2⟩ (by omega)) fun v2 h2 => ?_
  exact ⟨_, rfl, e1, h2.1.2.1, by have := h2.1.2.2; show v2.2.at_ ≤ hi + 4; omega⟩
theorem dRDraw {hi : Int} {s : L00Src} (h : SrcAt code hi s) (hb : hi ≤ 5000) (N : Nat) (hN : 100 < N) : ∃ v, s_l22Draw N s = some v ∧ SrcAt code (hi + 42) v.2 ∧ v.1.length ≤ 41 := by
  have e1 := h.1
  unfold s_l22Draw
  simp only [withK_n]
  refine bindE (pickA (hi := hi) 10 h (by omega)) fun v1 h1 => ?_
  have hv := h1.2.2 (by omega)
  have hv0 := h1.2.1
  obtain ⟨n, hn⟩ : ∃ n : Nat, v1.1 = n := ⟨v1.1.toNat, by omega⟩
  rw [hn]
  have key : ∀ (q N : Nat) (a sd : Int) (l : List Result), q < N → l.length + q ≤ 9 → SrcAt code (hi + 40 - 4 * q) ⟨s.code, a, sd⟩ → ∃ r, s_l22Draw_l1 (fun x7 x8 l9 => some (l9, (L00Src.mk s.code x7 x8))) s N a sd l (q : Int) = some r ∧ SrcAt code (hi + 42) r.2 ∧ r.1.length ≤ 41 := by
    intro q
    induction q with
    | zero =>
      intro N a sd l g1 g2 g3
      obtain ⟨N, rfl⟩ := pos_fuel g1
      have hz : ¬ ((0 : Nat) : Int) > 0 := by omega
      simp only [s_l22Draw_l1, hz, decide_false, cond_false]
      exact ⟨_, rfl, g3.mono (by omega), by show l.length ≤ 41; omega⟩
    | succ q ih =>
      intro N a sd l g1 g2 g3
      obtain ⟨N, rfl⟩ := pos_fuel g1
      have hz : ((q + 1 : Nat) : Int) > 0 := by omega
      have hw : w64 (((q + 1 : Nat) : Int) - 1) = (q : Int) := by rw [w64_id (by omega) (by omega)]; omega
      simp only [s_l22Draw_l1, hz, decide_true, cond_true]
      rw [idx_lt _ l.length (by simp only [List.length_cons, List.length_nil]; omega), Option.bind_some]
      refine bindE (dRNew (hi := hi + 40 - 4 * ((q + 1 : Nat) : Int)) (s := ⟨s.code, a, sd⟩) g3 (by omega) _) fun v2 h2 => ?_
      refine appE (by simp; unfold LIM; omega) ?_
      rw [hw]
      exact ih N _ _ _ (by omega) (by simp; omega) ⟨e1, h2.2.1, by have := h2.2.2; show v2.2.at_ ≤ _; omega⟩
  exact key n N _ _ [] (by omega) (by simp; omega) ⟨e1, h1.1.2.1, by have := h1.1.2.2; show v1.2.at_ ≤ _; omega⟩
theorem dRBent {hi : Int} {s : L00Src} (h : SrcAt code hi s) (hb : hi ≤ 5000) (N : Nat) (hN : 100 < N) : ∃ v, s_l22Bent N s = some v ∧ SrcAt code (hi + 60) v.2 ∧ v.1.length ≤ 41 := by
  have e1 := h.1
  unfold s_l22Bent
  refine bindE (dRDraw (hi := hi) h hb N hN) fun v1 h1 => ?_
  simp only [withK_n]
  have tail : ∀ (a sd : Int) (l : List Result), SrcAt code (hi + 50) ⟨s.code, a, sd⟩ → l.length ≤ 41 → ∃ r, (bif ((List.length l : Int) == 0) then
      some (l, (L00Src.mk s.code a sd))
      else
      (s_l00Src_pick (L00Src.mk s.code a sd) (List.length l : Int)).bind fun r30 =>
      (idx l r30.1).bind fun e32 =>
      (s_l00Src_pick (L00Src.mk s.code r30.2.at_ r30.2.seed) 24).bind fun r39 =>
      bif (r39.1 == 0) then
      (s_l00Src_text (L00Src.mk s.code r39.2.at_ r39.2.seed) ([[], [65, 100, 97], [97, 100, 97]] : List Str)).bind fun r43 =>
      some (List.set l (Int.toNat r30.1) (Result.mk r43.1 e32.net e32.errors), (L00Src.mk s.code r43.2.at_ r43.2.seed))
      else
      bif (r39.1 == 1) then
      (s_l00Src_among (L00Src.mk s.code r39.2.at_ r39.2.seed) [(-1), 0, 100000, 100001, (-9223372036854775808)]).bind fun r47 =>
      some (List.set l (Int.toNat r30.1) (Result.mk e32.name r47.1 e32.errors), (L00Src.mk s.code r47.2.at_ r47.2.seed))
      else
      bif (r39.1 == 2) then
      (s_l00Src_among (L00Src.mk s.code r39.2.at_ r39.2.seed) [(-1), 0, 100000, 100001]).bind fun r51 =>
      some (List.set l (Int.toNat r30.1) (Result.mk e32.name e32.net r51.1), (L00Src.mk s.code r51.2.at_ r51.2.seed))
      else
      some (l, (L00Src.mk s.code r39.2.at_ r39.2.seed))) = some r ∧ SrcAt code (hi + 60) r.2 ∧ r.1.length ≤ 41 := by
    intro a sd l ha hl
    refine condE (fun _ => ⟨_, rfl, ha.mono (by omega), hl⟩) fun hz => ?_
    have hne : l.length ≠ 0 := fun e => by rw [e] at hz; cases hz
    refine bindE (pickA (hi := hi + 50) (l.length : Int) ha (by omega)) fun v2 h2 => ?_
    have hv := h2.2.2 (by omega)
    rw [idx_int l v2.1 h2.2.1 hv, Option.bind_some]
    refine bindE (pickA (hi := hi + 50 + 2) 24 ⟨e1, h2.1.2⟩ (by omega)) fun v3 h3 => ?_
    have hs : SrcAt code (hi + 54) (L00Src.mk s.code v3.2.at_ v3.2.seed) := ⟨e1, h3.1.2.1, by have := h3.1.2.2; show v3.2.at_ ≤ hi + 54; omega⟩
    refine condE (fun _ => ?_) fun _ => condE (fun _ => ?_) fun _ => condE (fun _ => ?_) fun _ => ?_
    · refine bindE (textA _ (by decide) hs (by omega)) fun v4 h4 => ?_
      exact ⟨_, rfl, ⟨e1, h4.1.2.1, by have := h4.1.2.2; show v4.2.at_ ≤ hi + 60; omega⟩, by rw [List.length_set]; exact hl⟩
    · refine bindE (amongA _ (by decide) hs (by omega)) fun v4 h4 => ?_
      exact ⟨_, rfl, ⟨e1, h4.1.2.1, by have := h4.1.2.2; show v4.2.at_ ≤ hi + 60; omega⟩, by rw [List.length_set]; exact hl⟩
    · refine bindE (amongA _ (by decide) hs (by omega)) fun v4 h4 => ?_
      exact ⟨_, rfl, ⟨e1, h4.1.2.1, by have := h4.1.2.2; show v4.2.at_ ≤ hi + 60; omega⟩, by rw [List.length_set]; exact hl⟩
    · exact ⟨_, rfl, hs.mono (by omega), hl⟩
  have loop : ∀ (r18 : Int × L00Src), SrcAt code (hi + 50) ⟨s.code, r18.2.at_, r18.2.seed⟩ → ∀ (q N : Nat) (l : List Result) (kj : Int → Int → List Result → Option (List Result × L00Src)) (hk : ∀ l : List Result, l.length ≤ 41 → ∃ r, kj r18.2.at_ r18.2.seed l = some r ∧ SrcAt code (hi + 60) r.2 ∧ r.1.length ≤ 41), q < N → l.length + q ≤ 41 → ∃ r, s_l22Bent_l1 kj r18 N l (q : Int) = some r ∧ SrcAt code (hi + 60) r.2 ∧ r.1.length ≤ 41 := by
    intro r18 hr q
    induction q with
    | zero =>
      intro N l kj hk g1 g2
      obtain ⟨N, rfl⟩ := pos_fuel g1
      have hz : ¬ ((0 : Nat) : Int) > 0 := by omega
      simp only [s_l22Bent_l1, hz, decide_false, cond_false]
      exact hk l (by omega)
    | succ q ih =>
      intro N l kj hk g1 g2
      obtain ⟨N, rfl⟩ := pos_fuel g1
      have hz : ((q + 1 : Nat) : Int) > 0 := by omega
      have hw : w64 (((q + 1 : Nat) : Int) - 1) = (q : Int) := by rw [w64_id (by omega) (by omega)]; omega
      simp only [s_l22Bent_l1, hz, decide_true, cond_true]
      refine appE (by simp; unfold LIM; omega) ?_
      rw [hw]
      exact ih N _ kj hk (by omega) (by simp; omega)
  refine bindE (oneA (hi := hi + 42) 24 ⟨e1, h1.1.2⟩ (by omega)) fun v2 h2 => ?_
  refine condE (fun _ => ?_) fun _ => ?_
  · refine bindE (pickA (hi := hi + 42 + 2) 2 ⟨e1, h2.2⟩ (by omega)) fun v3 h3 => ?_
    have hv := h3.2.2 (by omega)
    have hv0 := h3.2.1
    have e : w64 (40 + v3.1) = ((40 + v3.1.toNat : Nat) : Int) := by rw [w64_id (by omega) (by omega)]; omega
    rw [e]
    have hs : SrcAt code (hi + 50) ⟨s.code, v3.2.at_, v3.2.seed⟩ := ⟨e1, h3.1.2.1, by have := h3.1.2.2; show v3.2.at_ ≤ hi + 50; omega⟩
    exact loop v3 hs _ N [] _ (fun l hl => tail _ _ l hs hl) (by omega) (by simp; omega)
  · exact tail _ _ _ ⟨e1, h2.2.1, by have := h2.2.2; show v2.2.at_ ≤ hi + 50; omega⟩ h1.2
theorem dHeats {hi : Int} {s : L00Src} (h : SrcAt code hi s) (hb : hi ≤ 5000) (R : List Result) (hR : R.length ≤ 41) (N : Nat) (hN : 100 < N) : ∃ v, s_l22DrawHeats N s R = some v ∧ SrcAt code (hi + 100) v.2 ∧ v.1.length ≤ 42 := by
  have e1 := h.1
  unfold s_l22DrawHeats
  simp only [withK_n]
  have tail : ∀ (l : List Int) (a sd : Int), SrcAt code (hi + 90) ⟨s.code, a, sd⟩ → l.length ≤ 41 → ∃ r, ((s_l00Src_pick (L00Src.mk s.code a sd) 12).bind fun r33 =>
      bif (r33.1 == 0) then
      (app l [0]).bind fun l37 =>
      some (l37, (L00Src.mk s.code r33.2.at_ r33.2.seed))
      else
      bif (r33.1 == 1) then
      bif decide ((List.length l : Int) > 0) then
      (s_l00Src_among (L00Src.mk s.code r33.2.at_ r33.2.seed) [(-1), 0, 9, 10]).bind fun r43 =>
      (idx l 0).bind fun e45 =>
      some (List.set l (Int.toNat 0) r43.1, (L00Src.mk s.code r43.2.at_ r43.2.seed))
      else
      some (l, (L00Src.mk s.code r33.2.at_ r33.2.seed))
      else
      some (l, (L00Src.mk s.code r33.2.at_ r33.2.seed))) = some r ∧ SrcAt code (hi + 100) r.2 ∧ r.1.length ≤ 42 := by
    intro l a sd ha hl
    refine bindE (pickA (hi := hi + 90) 12 ha (by omega)) fun v2 h2 => ?_
    have hs : SrcAt code (hi + 92) (L00Src.mk s.code v2.2.at_ v2.2.seed) := ⟨e1, h2.1.2.1, by have := h2.1.2.2; show v2.2.at_ ≤ hi + 92; omega⟩
    refine condE (fun _ => appE (by simp; unfold LIM; omega) ⟨_, rfl, hs.mono (by omega), by simp; omega⟩) fun _ => condE (fun _ => condE (fun hd => ?_) fun _ => ?_) fun _ => ?_
    · refine bindE (amongA _ (by decide) hs (by omega)) fun v3 h3 => ?_
      rw [show (0 : Int) = ((0 : Nat) : Int) from rfl, idx_lt l 0 (by have := of_decide_eq_true hd; omega), Option.bind_some]
      exact ⟨_, rfl, ⟨e1, h3.1.2.1, by have := h3.1.2.2; show v3.2.at_ ≤ hi + 100; omega⟩, by rw [List.length_set]; omega⟩
    · exact ⟨_, rfl, hs.mono (by omega), by show l.length ≤ 42; omega⟩
    · exact ⟨_, rfl, hs.mono (by omega), by show l.length ≤ 42; omega⟩
  have key : ∀ (q i N : Nat) (l : List Int) (a sd : Int) (kj : List Int → Int → Int → Option (List Int × L00Src)) (hk : ∀ (l : List Int) (a sd : Int), SrcAt code (hi + 90) ⟨s.code, a, sd⟩ → l.length ≤ 41 → ∃ r, kj l a sd = some r ∧ SrcAt code (hi + 100) r.2 ∧ r.1.length ≤ 42), i + q = R.length → q < N → l.length ≤ i → SrcAt code (hi + 90 - 2 * q) ⟨s.code, a, sd⟩ → ∃ r, s_l22DrawHeats_l1 kj s R N l a sd (i : Int) = some r ∧ SrcAt code (hi + 100) r.2 ∧ r.1.length ≤ 42 := by
    intro q
    induction q with
    | zero =>
      intro i N l a sd kj hk g1 g2 g3 g4
      obtain ⟨N, rfl⟩ := pos_fuel g2
      have hz : ¬ (i : Int) < (R.length : Int) := by omega
      simp only [s_l22DrawHeats_l1, hz, decide_false, cond_false]
      exact hk l a sd (g4.mono (by omega)) (by omega)
    | succ q ih =>
      intro i N l a sd kj hk g1 g2 g3 g4
      obtain ⟨N, rfl⟩ := pos_fuel g2
      have hz : (i : Int) < (R.length : Int) := by omega
      simp only [s_l22DrawHeats_l1, hz, decide_true, cond_true]
      refine bindE (pickA (hi := hi + 90 - 2 * ((q + 1 : Nat) : Int)) 3 g4 (by omega)) fun v2 h2 => ?_
      refine appE (by simp; unfold LIM; omega) ?_
      rw [w64_nat i (by omega)]
      exact ih (i + 1) N _ _ _ kj hk (by omega) (by omega) (by simp; omega) ⟨e1, h2.1.2.1, by have := h2.1.2.2; show v2.2.at_ ≤ _; omega⟩
  exact key R.length 0 N [] s.at_ s.seed _ (fun l a sd ha hl => tail l a sd ha hl) (by omega) (by omega) (by simp) ⟨e1, h.2.1, by have := h.2.2; show s.at_ ≤ _; omega⟩
end
end Go.Proofs.YtikkolkickclhaaDoor
