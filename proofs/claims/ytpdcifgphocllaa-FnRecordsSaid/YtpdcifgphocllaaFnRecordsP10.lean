/-
  Plain lemmas on these functions. No conditions but those that each states.
-/
import Derived.Test.YtpdcifgphocllaaFnRecordsP9
namespace Go.Proofs.Ytpdcifgphocllaa
set_option linter.unusedVariables false
set_option linter.unusedSimpArgs false
/-! Draws of tests. -/
section
variable {code : List UInt8}
theorem dNew {hi : Int} {s : L00Src} (h : SrcAt code hi s) (hb : hi ≤ 10000) : ∃ v, s_l20New s = some v ∧ SrcAt code (hi + 6) v.2 := by
  have e1 := h.1
  unfold s_l20New
  refine bindE (pickA (hi := hi) 200 h (by omega)) fun v1 h1 => ?_
  refine bindE (pickA (hi := hi + 2) 20 ⟨e1, h1.1.2⟩ (by omega)) fun v2 h2 => ?_
  refine bindE (pickA (hi := hi + 4) 12 ⟨e1, h2.1.2.1, by have := h2.1.2.2; show v2.2.at_ ≤ hi + 4; omega⟩ (by omega)) fun v3 h3 => ?_
  exact ⟨_, rfl, e1, h3.1.2.1, by have := h3.1.2.2; show v3.2.at_ ≤ hi + 6; omega⟩
theorem dSpoil {hi : Int} {s : L00Src} (h : SrcAt code hi s) (hb : hi ≤ 10000) (l : List Trial) (k : Nat) (x : Trial) : ∃ v, s_l20SpoilE s l k x = some v ∧ SrcAt code (hi + 4) v.1 ∧ v.2.length = l.length := by
  have e1 := h.1
  unfold s_l20SpoilE
  refine bindE (pickA (hi := hi) 3 h (by omega)) fun v1 h1 => ?_
  have hs : SrcAt code (hi + 2) (L00Src.mk s.code v1.2.at_ v1.2.seed) := ⟨e1, h1.1.2⟩
  refine condE (fun _ => ?_) fun _ => condE (fun _ => ?_) fun _ => condE (fun _ => ?_) fun _ => ?_
  · refine bindE (amongA _ (by decide) hs (by omega)) fun v2 h2 => ?_
    exact ⟨_, rfl, ⟨e1, h2.1.2.1, by have := h2.1.2.2; show v2.2.at_ ≤ hi + 4; omega⟩, List.length_set⟩
  · refine bindE (amongA _ (by simp) hs (by omega)) fun v2 h2 => ?_
    exact ⟨_, rfl, ⟨e1, h2.1.2.1, by have := h2.1.2.2; show v2.2.at_ ≤ hi + 4; omega⟩, List.length_set⟩
  · refine bindE (amongA _ (by decide) hs (by omega)) fun v2 h2 => ?_
    exact ⟨_, rfl, ⟨e1, h2.1.2.1, by have := h2.1.2.2; show v2.2.at_ ≤ hi + 4; omega⟩, List.length_set⟩
  · exact ⟨_, rfl, ⟨e1, h1.1.2.1, by have := h1.1.2.2; show v1.2.at_ ≤ hi + 4; omega⟩, rfl⟩
theorem dDraw {s : L00Src} (h : SrcAt code 10 s) (N : Nat) (hN : 100 < N) : ∃ v, s_l20Draw N s = some v ∧ SrcAt code 1010 v.2 ∧ v.1.length ≤ 41 := by
  obtain ⟨e1, h0, h1⟩ := h
  unfold s_l20Draw
  refine bindE (pickA (hi := 10) 9 ⟨e1, h0, h1⟩ (by omega)) fun v1 g1 => ?_
  simp only [withK_n]
  have key : ∀ (a sd : Int) (n : Nat), SrcAt code 100 ⟨s.code, a, sd⟩ → n ≤ 41 → ∃ r, s_l20Draw_l1 (fun x18 x19 l20 =>
      (bif decide ((n : Int) > 0) then (s_l00Src_one (L00Src.mk s.code x18 x19) 10).bind fun r45 => some (r45.1, (L00Src.mk s.code r45.2.at_ r45.2.seed)) else some (false, (L00Src.mk s.code x18 x19))).bind fun x43 =>
      bif x43.1 then
      (s_l00Src_pick (L00Src.mk s.code x43.2.at_ x43.2.seed) (n : Int)).bind fun r48 =>
      (idx l20 r48.1).bind fun e50 =>
      (s_l20SpoilE (L00Src.mk s.code r48.2.at_ r48.2.seed) l20 (Int.toNat r48.1) e50).bind fun r52 =>
      some (r52.2, (L00Src.mk s.code r52.1.at_ r52.1.seed))
      else
      some (l20, (L00Src.mk s.code x43.2.at_ x43.2.seed))) s N a sd [] (n : Int) = some r ∧ SrcAt code 1010 r.2 ∧ r.1.length ≤ 41 := by
    intro a sd n ha hn
    obtain ⟨c, at0, sd0⟩ := s
    have hlen : ∀ (q N : Nat) (a sd : Int) (l : List Trial), q < N → l.length + q = n → SrcAt code (1000 - 6 * q) ⟨c, a, sd⟩ → ∃ r, s_l20Draw_l1 (fun x18 x19 l20 =>
      (bif decide ((n : Int) > 0) then (s_l00Src_one (L00Src.mk c x18 x19) 10).bind fun r45 => some (r45.1, (L00Src.mk c r45.2.at_ r45.2.seed)) else some (false, (L00Src.mk c x18 x19))).bind fun x43 =>
      bif x43.1 then
      (s_l00Src_pick (L00Src.mk c x43.2.at_ x43.2.seed) (n : Int)).bind fun r48 =>
      (idx l20 r48.1).bind fun e50 =>
      (s_l20SpoilE (L00Src.mk c r48.2.at_ r48.2.seed) l20 (Int.toNat r48.1) e50).bind fun r52 =>
      some (r52.2, (L00Src.mk c r52.1.at_ r52.1.seed))
      else
      some (l20, (L00Src.mk c x43.2.at_ x43.2.seed))) ⟨c, at0, sd0⟩ N a sd l (q : Int) = some r ∧ SrcAt code 1010 r.2 ∧ r.1.length ≤ 41 := by
      intro q
      induction q with
      | zero =>
        intro N a sd l h1 h2 h3
        obtain ⟨N, rfl⟩ := pos_fuel h1
        have hz : ¬ ((0 : Nat) : Int) > 0 := by omega
        simp only [s_l20Draw_l1, hz, decide_false, cond_false]
        refine bindE (P := fun x => SrcAt code 1002 x.2 ∧ (x.1 = true → 0 < n)) (condE (fun hd => ?_) fun _ => ?_) fun x hx => ?_
        · refine bindE (oneA (hi := 1000) 10 (h3.mono (by omega)) (by omega)) fun v2 g2 => ?_
          exact ⟨_, rfl, ⟨e1, g2.2⟩, fun _ => by simpa using hd⟩
        · exact ⟨_, rfl, h3.mono (by omega), fun h => by cases h⟩
        · obtain ⟨⟨x1, x2, x3⟩, x4⟩ := hx
          refine condE (fun hd => ?_) fun _ => ?_
          · have hn0 := x4 hd
            refine bindE (pickA (hi := 1002) (n : Int) ⟨e1, x2, x3⟩ (by omega)) fun v2 g2 => ?_
            have hlt := g2.2.2 (by omega)
            rw [idx_int l v2.1 g2.2.1 (by omega), Option.bind_some]
            refine bindE (dSpoil (hi := 1004) (s := ⟨c, v2.2.at_, v2.2.seed⟩) ⟨e1, g2.1.2⟩ (by omega) l _ _) fun v3 g3 => ?_
            exact ⟨_, rfl, ⟨e1, g3.1.2.1, by have := g3.1.2.2; show v3.1.at_ ≤ 1010; omega⟩, by show v3.2.length ≤ 41; rw [g3.2]; omega⟩
          · exact ⟨_, rfl, ⟨e1, x2, by show x.2.at_ ≤ 1010; omega⟩, by show l.length ≤ 41; omega⟩
      | succ q ih =>
        intro N a sd l h1 h2 h3
        obtain ⟨N, rfl⟩ := pos_fuel h1
        have hz : ((q + 1 : Nat) : Int) > 0 := by omega
        have hw : w64 (((q + 1 : Nat) : Int) - 1) = (q : Int) := by rw [w64_id (by omega) (by omega)]; omega
        simp only [s_l20Draw_l1, hz, decide_true, cond_true]
        refine bindE (dNew (hi := 1000 - 6 * ((q + 1 : Nat) : Int)) h3 (by omega)) fun v1 g1 => ?_
        refine appE (by simp; unfold LIM; omega) ?_
        rw [hw]
        exact ih N _ _ _ (by omega) (by simp; omega) ⟨e1, g1.2.1, by have := g1.2.2; show v1.2.at_ ≤ _; omega⟩
    exact hlen n N a sd [] (by omega) (by simp) (ha.mono (by omega))
  refine bindE (oneA (hi := 12) 24 ⟨e1, g1.1.2⟩ (by omega)) fun v2 g2 => ?_
  refine condE (fun _ => ?_) fun _ => ?_
  · refine bindE (pickA (hi := 14) 2 ⟨e1, g2.2⟩ (by omega)) fun v3 g3 => ?_
    have hv := g3.2.2 (by omega)
    have hv0 := g3.2.1
    have e : w64 (40 + v3.1) = ((40 + v3.1.toNat : Nat) : Int) := by rw [w64_id (by omega) (by omega)]; omega
    rw [e]
    exact key _ _ _ ⟨e1, g3.1.2.1, by have := g3.1.2.2; show v3.2.at_ ≤ 100; omega⟩ (by omega)
  · have hv := g1.2.2 (by omega)
    have hv0 := g1.2.1
    have e : v1.1 = ((v1.1.toNat : Nat) : Int) := by omega
    rw [e]
    exact key _ _ _ ⟨e1, g2.2.1, by have := g2.2.2; show v2.2.at_ ≤ 100; omega⟩ (by omega)
theorem dPen {hi : Int} {s : L00Src} (h : SrcAt code hi s) (hb : hi ≤ 10000) : ∃ v, s_l20DrawPenalty s = some v ∧ SrcAt code (hi + 4) v.2 := by
  have e1 := h.1
  unfold s_l20DrawPenalty
  refine bindE (oneA (hi := hi) 10 h (by omega)) fun v1 h1 => ?_
  refine condE (fun _ => ?_) fun _ => ?_
  · refine bindE (amongA (hi := hi + 2) _ (by decide) ⟨e1, h1.2⟩ (by omega)) fun v2 h2 => ?_
    exact ⟨_, rfl, e1, h2.1.2.1, by have := h2.1.2.2; show v2.2.at_ ≤ hi + 4; omega⟩
  · refine bindE (pickA (hi := hi + 2) 5 ⟨e1, h1.2⟩ (by omega)) fun v2 h2 => ?_
    exact ⟨_, rfl, e1, h2.1.2.1, by have := h2.1.2.2; show v2.2.at_ ≤ hi + 4; omega⟩
end
theorem dRecords (code : List UInt8) (N : Nat) (hN : 100 < N) : ∃ v, s_DrawRecordsOf N code = some v ∧ v.1.length ≤ 41 := by
  unfold s_DrawRecordsOf s_l20Lists
  rw [fromA, Option.bind_some]
  have h0 : SrcAt code 10 ⟨code, 0, 0⟩ := ⟨rfl, by show (0 : Int) ≤ 0; omega, by show (0 : Int) ≤ 10; omega⟩
  refine bindE (P := fun v => v.1.length ≤ 41) ?_ fun v h => ⟨_, rfl, h⟩
  refine bindE (dDraw h0 N hN) fun v1 h1 => ?_
  refine bindE (dPen (hi := 1010) ⟨rfl, h1.1.2⟩ (by omega)) fun v2 h2 => ?_
  exact ⟨_, rfl, h1.2⟩
theorem dSame (code : List UInt8) (N : Nat) (hN : 100 < N) : ∃ v, s_DrawSameTrials N code = some v ∧ v.1.length ≤ 41 ∧ v.2.length ≤ 42 := by
  unfold s_DrawSameTrials
  rw [fromA, Option.bind_some]
  have h0 : SrcAt code 10 ⟨code, 0, 0⟩ := ⟨rfl, by show (0 : Int) ≤ 0; omega, by show (0 : Int) ≤ 10; omega⟩
  refine bindE (dDraw h0 N hN) fun v1 h1 => ?_
  have hl := h1.2
  refine appE (by simp; unfold LIM; omega) ?_
  simp only [withK_n, List.nil_append]
  have key : ∀ (a sd : Int) (l : List Trial), SrcAt code 1020 ⟨code, a, sd⟩ → l.length ≤ 41 → ∃ r, ((s_l00Src_one (L00Src.mk code a sd) 5).bind fun r37 => bif r37.1 then (app l [(Trial.mk 0 0 0)]).bind fun l41 => some (v1.1, l41) else some (v1.1, l)) = some r ∧ r.1.length ≤ 41 ∧ r.2.length ≤ 42 := by
    intro a sd l ha hl2
    refine bindE (oneA (hi := 1020) 5 ha (by omega)) fun v2 h2 => ?_
    refine condE (fun _ => appE (by simp; unfold LIM; omega) ⟨_, rfl, hl, by simp; omega⟩) fun _ => ⟨_, rfl, hl, by show l.length ≤ 42; omega⟩
  refine bindE (P := fun x => SrcAt code 1012 x.2 ∧ (x.1 = true → 0 < v1.1.length)) (condE (fun hd => ?_) fun _ => ?_) fun x hx => ?_
  · refine bindE (oneA (hi := 1010) 2 ⟨rfl, h1.1.2⟩ (by omega)) fun v2 g2 => ?_
    exact ⟨_, rfl, ⟨rfl, g2.2⟩, fun _ => by have := of_decide_eq_true hd; omega⟩
  · exact ⟨_, rfl, ⟨rfl, h1.1.2.1, by have := h1.1.2.2; show v1.2.at_ ≤ 1012; omega⟩, fun h => by cases h⟩
  · obtain ⟨⟨x1, x2, x3⟩, x4⟩ := hx
    refine condE (fun hd => ?_) fun _ => ?_
    · have hn0 := x4 hd
      rw [show (0 : Int) = ((0 : Nat) : Int) from rfl, idx_lt _ 0 hn0]
      simp only [Option.bind_some]
      refine bindE (pickA (hi := 1012) 2 ⟨rfl, x2, x3⟩ (by omega)) fun v2 g2 => ?_
      exact key _ _ _ ⟨rfl, g2.1.2.1, by have := g2.1.2.2; show v2.2.at_ ≤ 1020; omega⟩ (by rw [List.length_set]; exact hl)
    · exact key _ _ _ ⟨rfl, x2, by show x.2.at_ ≤ 1020; omega⟩ hl
end Go.Proofs.Ytpdcifgphocllaa
