/-
  Plain lemmas on these functions. No conditions but those that each states.
-/
import Derived.Test.YtppdmciboalhfaaDoorFnSpeedsP8
namespace Go.Proofs.YtppdmciboalhfaaDoor
set_option linter.unusedVariables false
set_option linter.unusedSimpArgs false
/-! Draws of trials. -/
theorem New_ok {code : List UInt8} {hi : Int} (s : L00Src) (h : SrcAt code hi s) (hb : hi ≤ 1000000) : ∃ v, s_l20New s = some v ∧ SrcAt code (hi + 6) v.2 ∧ (0 ≤ v.1.strokes ∧ v.1.strokes ≤ 10000) ∧ (0 ≤ v.1.errors ∧ v.1.errors ≤ 10000) ∧ (0 ≤ v.1.seconds ∧ v.1.seconds ≤ 10000) := by
  unfold s_l20New
  refine bindE (pickA 200 h (by omega)) fun v1 h1 => ?_
  refine bindE (pickA 20 ⟨h.1, h1.1.2⟩ (by omega)) fun v2 h2 => ?_
  refine bindE (pickA 12 ⟨h.1, h2.1.2⟩ (by omega)) fun v3 h3 => ?_
  have a1 := h1.2.2 (by omega)
  have a2 := h2.2.2 (by omega)
  have a3 := h3.2.2 (by omega)
  have b1 := h1.2.1
  have b2 := h2.2.1
  have b3 := h3.2.1
  refine ⟨_, rfl, ⟨h.1, h3.1.2.1, by have := h3.1.2.2; show v3.2.at_ ≤ _; omega⟩, ?_, by show 0 ≤ v2.1 ∧ v2.1 ≤ 10000; omega, ?_⟩
  · show 0 ≤ w64 (100 + w64 (10 * v1.1)) ∧ w64 (100 + w64 (10 * v1.1)) ≤ 10000
    rw [w64_id (x := 10 * v1.1) (by omega) (by omega), w64_id (by omega) (by omega)]; omega
  · show 0 ≤ w64 (30 * w64 (1 + v3.1)) ∧ w64 (30 * w64 (1 + v3.1)) ≤ 10000
    rw [w64_id (x := 1 + v3.1) (by omega) (by omega), w64_id (by omega) (by omega)]; omega
theorem Bent_ok {code : List UInt8} {hi : Int} (s : L00Src) (h : SrcAt code hi s) (hb : hi ≤ 1000000) : ∃ v, s_l20Bent s = some v ∧ SrcAt code (hi + 20) v.2 := by
  unfold s_l20Bent
  simp only [withK_eq]
  refine bindE (New_ok (code := code) (hi := hi) (L00Src.mk s.code s.at_ s.seed) h hb) fun v1 h1 => ?_
  refine bindE (oneA 8 ⟨h.1, h1.1.2⟩ (by omega)) fun v2 h2 => ?_
  refine condE (fun _ => ?_) fun _ => ⟨_, rfl, h.1, h2.2.1, by have := h2.2.2; show v2.2.at_ ≤ _; omega⟩
  have sp : ∃ v, s_l20Spoil (L00Src.mk s.code v2.2.at_ v2.2.seed) (Trial.mk v1.1.strokes v1.1.errors v1.1.seconds) = some v ∧ SrcAt code (hi + 14) v.1 := by
    unfold s_l20Spoil
    refine bindE (pickA 3 ⟨h.1, h2.2⟩ (by omega)) fun v3 h3 => ?_
    refine condE (fun _ => ?_) fun _ => condE (fun _ => ?_) fun _ => condE (fun _ => ?_) fun _ => ⟨_, rfl, h.1, h3.1.2.1, by have := h3.1.2.2; show v3.2.at_ ≤ _; omega⟩
    · refine bindE (amongA _ (by simp) ⟨h.1, h3.1.2⟩ (by omega)) fun v4 h4 => ⟨_, rfl, h.1, h4.1.2.1, by have := h4.1.2.2; show v4.2.at_ ≤ _; omega⟩
    · refine bindE (amongA _ (by simp) ⟨h.1, h3.1.2⟩ (by omega)) fun v4 h4 => ⟨_, rfl, h.1, h4.1.2.1, by have := h4.1.2.2; show v4.2.at_ ≤ _; omega⟩
    · refine bindE (amongA _ (by simp) ⟨h.1, h3.1.2⟩ (by omega)) fun v4 h4 => ⟨_, rfl, h.1, h4.1.2.1, by have := h4.1.2.2; show v4.2.at_ ≤ _; omega⟩
  refine bindE sp fun v3 h3 => ⟨_, rfl, h.1, h3.2.1, by have := h3.2.2; show v3.1.at_ ≤ _; omega⟩
theorem Pen_ok {code : List UInt8} {hi : Int} (s : L00Src) (h : SrcAt code hi s) (hb : hi ≤ 1000000) : ∃ v, s_l20DrawPenalty s = some v ∧ SrcAt code (hi + 4) v.2 := by
  unfold s_l20DrawPenalty
  refine bindE (oneA 10 h (by omega)) fun v1 h1 => ?_
  refine condE (fun _ => ?_) fun _ => ?_
  · refine bindE (amongA _ (by simp) ⟨h.1, h1.2⟩ (by omega)) fun v4 h4 => ⟨_, rfl, h.1, h4.1.2.1, by have := h4.1.2.2; show v4.2.at_ ≤ _; omega⟩
  · refine bindE (pickA _ ⟨h.1, h1.2⟩ (by omega)) fun v4 h4 => ⟨_, rfl, h.1, h4.1.2.1, by have := h4.1.2.2; show v4.2.at_ ≤ _; omega⟩
theorem Draw1 (code : List UInt8) : ∃ v, s_DrawStrokesPerMinute code = some v := by
  obtain ⟨v, h, _⟩ : ∃ v, s_DrawStrokesPerMinute code = some v ∧ True := by
    unfold s_DrawStrokesPerMinute s_l20Both
    simp only [fromA, Option.bind_some]
    refine bindE (P := fun _ => True) ?_ fun v _ => ⟨_, rfl, trivial⟩
    refine bindE (Bent_ok (code := code) (hi := 0) (L00Src.mk code 0 0) ⟨rfl, by simp, by simp⟩ (by omega)) fun v1 h1 => ?_
    refine bindE (Pen_ok (code := code) (hi := 20) (L00Src.mk code v1.2.at_ v1.2.seed) ⟨rfl, h1.2⟩ (by omega)) fun v2 h2 => ⟨_, rfl, trivial⟩
  exact ⟨v, h⟩
theorem Draw2 (code : List UInt8) : ∃ v, s_DrawStrokesNeeded code = some v := by
  obtain ⟨v, h, _⟩ : ∃ v, s_DrawStrokesNeeded code = some v ∧ True := by
    unfold s_DrawStrokesNeeded
    simp only [fromA, Option.bind_some, withK_eq]
    refine bindE (pickA (code := code) (hi := 0) 90 ⟨rfl, by simp, by simp⟩ (by omega)) fun v1 h1 => ?_
    refine bindE (pickA (code := code) (hi := 2) 12 ⟨rfl, h1.1.2⟩ (by omega)) fun v2 h2 => ?_
    refine bindE (pickA (code := code) (hi := 4) 20 ⟨rfl, h2.1.2⟩ (by omega)) fun v3 h3 => ?_
    refine bindE (pickA (code := code) (hi := 6) 12 ⟨rfl, h3.1.2⟩ (by omega)) fun v4 h4 => ?_
    have fin : ∀ (a sd w e q : Int), 0 ≤ a → a ≤ 10 → ∃ r, ((s_l20DrawPenalty (L00Src.mk code a sd)).bind fun r34 => some (w, e, r34.1, q)) = some r ∧ True := fun a sd w e q g1 g2 =>
      bindE (Pen_ok (code := code) (hi := 10) (L00Src.mk code a sd) ⟨rfl, g1, g2⟩ (by omega)) fun v h => ⟨_, rfl, trivial⟩
    refine condE (fun _ => ?_) fun _ => condE (fun _ => ?_) fun _ => condE (fun _ => ?_) fun _ => fin _ _ _ _ _ h4.1.2.1 (by have := h4.1.2.2; omega)
    · exact bindE (amongA (code := code) (hi := 8) _ (by simp) ⟨rfl, h4.1.2⟩ (by omega)) fun v5 h5 => fin _ _ _ _ _ h5.1.2.1 (by have := h5.1.2.2; omega)
    · exact bindE (amongA (code := code) (hi := 8) _ (by simp) ⟨rfl, h4.1.2⟩ (by omega)) fun v5 h5 => fin _ _ _ _ _ h5.1.2.1 (by have := h5.1.2.2; omega)
    · exact bindE (amongA (code := code) (hi := 8) _ (by simp) ⟨rfl, h4.1.2⟩ (by omega)) fun v5 h5 => fin _ _ _ _ _ h5.1.2.1 (by have := h5.1.2.2; omega)
  exact ⟨v, h⟩
theorem Draw3 (code : List UInt8) : ∃ v, s_DrawPassesTest code = some v := by
  obtain ⟨v, h, _⟩ : ∃ v, s_DrawPassesTest code = some v ∧ True := by
    unfold s_DrawPassesTest
    simp only [fromA, Option.bind_some, withK_eq]
    refine bindE (Bent_ok (code := code) (hi := 0) (L00Src.mk code 0 0) ⟨rfl, by simp, by simp⟩ (by omega)) fun v1 h1 => ?_
    refine bindE (Pen_ok (code := code) (hi := 20) (L00Src.mk code v1.2.at_ v1.2.seed) ⟨rfl, h1.2⟩ (by omega)) fun v2 h2 => ?_
    refine bindE (pickA (code := code) (hi := 24) 30 ⟨rfl, h2.2⟩ (by omega)) fun v3 h3 => ?_
    refine bindE (oneA (code := code) (hi := 26) 10 ⟨rfl, h3.1.2⟩ (by omega)) fun v4 h4 => ?_
    have fin : ∀ (a sd w : Int), 0 ≤ a → a ≤ 40 → ∃ r, ((s_l00Src_one (L00Src.mk code a sd) 10).bind fun r26 =>
        bif r26.1 then
        (s_l00Src_among (L00Src.mk code r26.2.at_ r26.2.seed) [(-1), 0, 1000, 1001]).bind fun r30 =>
        some (v1.1, v2.1, w, r30.1)
        else
        (s_l00Src_pick (L00Src.mk code r26.2.at_ r26.2.seed) 30).bind fun r32 =>
        some (v1.1, v2.1, w, r32.1)) = some r ∧ True := fun a sd w g1 g2 => by
      refine bindE (oneA (code := code) (hi := 40) 10 ⟨rfl, g1, g2⟩ (by omega)) fun v5 h5 => ?_
      refine condE (fun _ => ?_) fun _ => ?_
      · exact bindE (amongA (code := code) (hi := 42) _ (by simp) ⟨rfl, h5.2⟩ (by omega)) fun v6 h6 => ⟨_, rfl, trivial⟩
      · exact bindE (pickA (code := code) (hi := 42) _ ⟨rfl, h5.2⟩ (by omega)) fun v6 h6 => ⟨_, rfl, trivial⟩
    refine condE (fun _ => ?_) fun _ => fin _ _ _ h4.2.1 (by have := h4.2.2; omega)
    exact bindE (amongA (code := code) (hi := 28) _ (by simp) ⟨rfl, h4.2⟩ (by omega)) fun v5 h5 => fin _ _ _ h5.1.2.1 (by have := h5.1.2.2; omega)
  exact ⟨v, h⟩
theorem Draw4 (code : List UInt8) : ∃ v, s_DrawErrorShare code = some v ∧ s_DrawTrialText code = some v := by
  obtain ⟨v, h, _⟩ := Bent_ok (code := code) (hi := 0) (L00Src.mk code 0 0) ⟨rfl, by simp, by simp⟩ (by omega)
  refine ⟨v.1, ?_, ?_⟩
  · unfold s_DrawErrorShare; simp only [fromA, Option.bind_some, h]
  · unfold s_DrawTrialText; simp only [fromA, Option.bind_some, h]
theorem Spoil_ok {code : List UInt8} {hi : Int} (s : L00Src) (h : SrcAt code hi s) (hb : hi ≤ 1000000) (t : Str) (ht : t.length ≤ 150) : ∃ v, s_l01Spoil s t = some v ∧ v.1.length ≤ 160 := by
  unfold s_l01Spoil
  simp only [withK_eq]
  refine bindE (pickA 5 h (by omega)) fun v1 h1 => ?_
  refine condE (fun _ => ?_) fun _ => condE (fun _ => ?_) fun _ => ⟨_, rfl, by show t.length ≤ 160; omega⟩
  · have e : w64 ((t.length : Int) + 1) = (t.length : Int) + 1 := w64_id (by omega) (by omega)
    rw [e]
    refine bindE (pickA _ ⟨h.1, h1.1.2⟩ (by omega)) fun v2 h2 => ?_
    have a := h2.2.2 (by omega)
    have b := h2.2.1
    rw [sub_some t 0 v2.1 (by omega) (by omega) (by omega), Option.bind_some]
    refine bindE (textA _ (by simp) ⟨h.1, h2.1.2⟩ (by omega)) fun v3 h3 => ?_
    have : ∀ x ∈ ([[32], [48], [45], [120], [49], [57], [46]] : List Str), x.length ≤ 1 := by decide
    have hx := this _ h3.2
    have l1 : ((t.drop (0 : Int).toNat).take (v2.1.toNat - (0 : Int).toNat)).length ≤ 150 := by simp; omega
    rw [cat_some _ _ (by unfold LIM; omega), Option.bind_some, sub_some t v2.1 _ (by omega) (by omega) (by omega), Option.bind_some]
    have l2 : ((t.drop v2.1.toNat).take ((t.length : Int).toNat - v2.1.toNat)).length ≤ t.length - v2.1.toNat := by simp <;> omega
    have l3 : ((t.drop (0 : Int).toNat).take (v2.1.toNat - (0 : Int).toNat)).length ≤ v2.1.toNat := by simp; omega
    rw [cat_some _ _ (by unfold LIM; simp only [List.length_append]; omega), Option.bind_some]
    refine ⟨_, rfl, ?_⟩
    simp only [List.length_append]
    omega
  · refine condE (fun c => ?_) fun _ => ⟨_, rfl, by show t.length ≤ 160; omega⟩
    have hpos : 0 < t.length := List.length_pos_iff.2 (by simpa using c)
    refine bindE (pickA _ ⟨h.1, h1.1.2⟩ (by omega)) fun v2 h2 => ?_
    have a := h2.2.2 (by omega)
    have b := h2.2.1
    have e : w64 (v2.1 + 1) = v2.1 + 1 := w64_id (by omega) (by omega)
    rw [e, sub_some t 0 v2.1 (by omega) (by omega) (by omega), Option.bind_some, sub_some t (v2.1 + 1) _ (by omega) (by omega) (by omega), Option.bind_some]
    have l1 : ((t.drop (0 : Int).toNat).take (v2.1.toNat - (0 : Int).toNat)).length ≤ v2.1.toNat := by simp; omega
    have l2 : ((t.drop (v2.1 + 1).toNat).take ((t.length : Int).toNat - (v2.1 + 1).toNat)).length ≤ t.length - v2.1.toNat := by simp; omega
    rw [cat_some _ _ (by unfold LIM; omega), Option.bind_some]
    refine ⟨_, rfl, ?_⟩
    simp only [List.length_append]
    omega
theorem Draw5 (N : Nat) (code : List UInt8) (hN : 100 ≤ N) : ∃ v, s_DrawReadTrial N code = some v ∧ v.length ≤ 160 := by
  unfold s_DrawReadTrial
  simp only [fromA, Option.bind_some]
  refine bindE (New_ok (code := code) (hi := 0) (L00Src.mk code 0 0) ⟨rfl, by simp, by simp⟩ (by omega)) fun v1 h1 => ?_
  obtain ⟨h1a, h1b, h1c, h1d⟩ := h1
  have hl := frm_len v1.1.strokes.toNat v1.1.errors.toNat v1.1.seconds.toNat (by omega) (by omega) (by omega)
  rw [sText_ok N (Trial.mk v1.1.strokes v1.1.errors v1.1.seconds) ⟨h1b.1, by have := h1b.2; show v1.1.strokes ≤ _; omega⟩ ⟨h1c.1, by have := h1c.2; show v1.1.errors ≤ _; omega⟩ ⟨h1d.1, by have := h1d.2; show v1.1.seconds ≤ _; omega⟩ hN, Option.bind_some]
  refine bindE (oneA (code := code) (hi := 6) 3 ⟨rfl, h1a.2⟩ (by omega)) fun v2 h2 => ?_
  have hl' : (frm (Trial.mk v1.1.strokes v1.1.errors v1.1.seconds).strokes.toNat (Trial.mk v1.1.strokes v1.1.errors v1.1.seconds).errors.toNat (Trial.mk v1.1.strokes v1.1.errors v1.1.seconds).seconds.toNat).length ≤ 100 := hl
  refine condE (fun _ => ?_) fun _ => ⟨_, rfl, by omega⟩
  exact bindE (Spoil_ok (code := code) (hi := 8) (L00Src.mk code v2.2.at_ v2.2.seed) ⟨rfl, h2.2⟩ (by omega) _ (by omega)) fun v3 h3 => ⟨_, rfl, h3⟩
end Go.Proofs.YtppdmciboalhfaaDoor
