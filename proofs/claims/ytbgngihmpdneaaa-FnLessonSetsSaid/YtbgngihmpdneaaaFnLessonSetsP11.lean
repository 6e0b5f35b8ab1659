/-
  Plain lemmas on these functions. No conditions but those that each states.
-/
import Derived.Test.YtbgngihmpdneaaaFnLessonSetsP10
namespace Go.Proofs.Ytbgngihmpdneaaa
set_option linter.unusedVariables false
set_option linter.unusedSimpArgs false
/-! Drawn lessons. -/
def T7 : List Str := [[97], [115], [100], [102], [103], [104], [49]]
theorem t7_one : ∀ s ∈ T7, ∃ c, s = [c] := by
  intro s hs
  simp only [T7, List.mem_cons, List.not_mem_nil, or_false] at hs
  rcases hs with rfl | rfl | rfl | rfl | rfl | rfl | rfl <;> exact ⟨_, rfl⟩
theorem dl_l2 {code : List UInt8} (s : L00Src) (hs : s.code = code) (kj : Int → Int → Str → Str → Int → Option (List Lesson × L00Src)) (Q : List Lesson × L00Src → Prop) : ∀ (n N : Nat) (a sd hi : Int) (nm l : Str) (h : Int), n + 1001 < N → 0 ≤ a → a ≤ hi → hi + 2 * n ≤ 1000000 → l.length + n ≤ 100 →
    (∀ a' sd' l', 0 ≤ a' → a' ≤ hi + 2 * n → l'.length ≤ l.length + n → ∃ r, kj a' sd' nm l' h = some r ∧ Q r) → ∃ r, s_l18Draw_l2 kj s N a sd nm l h (n : Int) = some r ∧ Q r := by
  intro n
  induction n with
  | zero =>
    intro N a sd hi nm l h hN h0 h1 h2 h3 k
    obtain ⟨N, rfl⟩ := pos_fuel hN
    have hz : ¬ ((0 : Nat) : Int) > 0 := by omega
    simp only [s_l18Draw_l2, hz, decide_false, cond_false]
    exact k a sd l h0 (by omega) (by omega)
  | succ n ih =>
    intro N a sd hi nm l h hN h0 h1 h2 h3 k
    obtain ⟨N, rfl⟩ := pos_fuel hN
    have hz : ((n + 1 : Nat) : Int) > 0 := by omega
    have e2 : w64 (((n + 1 : Nat) : Int) - 1) = (n : Int) := by rw [w64_id (by omega) (by omega)]; omega
    simp only [s_l18Draw_l2, hz, decide_true, cond_true, e2]
    refine bindE (textA (code := code) (hi := hi) T7 (by decide) ⟨hs, h0, h1⟩ (by omega)) fun v g => ?_
    obtain ⟨c, hc⟩ := t7_one _ g.2
    rw [hc, s_put l c (by omega) N (by omega), Option.bind_some]
    have hp := putC_len l c
    exact ih N _ _ (hi + 2) nm _ h (by omega) g.1.2.1 g.1.2.2 (by omega) (by omega) (fun a' sd' l' w1 w2 w3 => k a' sd' l' w1 (by omega) (by omega))
theorem dl_l3 {code : List UInt8} (s : L00Src) (hs : s.code = code) (m : Nat) (hm : m ≤ 20) (r7 : Int × L00Src) (hr : r7.1 = (m : Int)) (i : Int) (kj : Int → Int → Str → Str → Int → List Int → Option (List Lesson × L00Src)) (Q : List Lesson × L00Src → Prop) : ∀ (n j N : Nat) (a sd hi : Int) (nm l : Str) (h : Int) (ns : List Int), j + n = m → n < N → 0 ≤ a → a ≤ hi → hi + 4 * n ≤ 1000000 → ns.length ≤ j →
    (∀ a' sd' ns', 0 ≤ a' → a' ≤ hi + 4 * n → ns'.length ≤ m → ∃ r, kj a' sd' nm l h ns' = some r ∧ Q r) → ∃ r, s_l18Draw_l3 kj s r7 i N a sd nm l h ns (j : Int) = some r ∧ Q r := by
  intro n
  induction n with
  | zero =>
    intro j N a sd hi nm l h ns hj hN h0 h1 h2 h3 k
    obtain ⟨N, rfl⟩ := pos_fuel hN
    have hz : ¬ (j : Int) < (m : Int) := by omega
    simp only [s_l18Draw_l3, hr, hz, decide_false, cond_false]
    exact k a sd ns h0 (by omega) (by omega)
  | succ n ih =>
    intro j N a sd hi nm l h ns hj hN h0 h1 h2 h3 k
    obtain ⟨N, rfl⟩ := pos_fuel hN
    have hz : (j : Int) < (m : Int) := by omega
    simp only [s_l18Draw_l3, hr, hz, decide_true, cond_true, withK_n, w64_nat j (by omega)]
    refine bindE (P := fun v => SrcAt code (hi + 2) v.2) (condE (fun _ => ?_) (fun _ => ⟨_, rfl, hs, h0, by show a ≤ hi + 2; omega⟩)) fun v g => ?_
    · exact bindE (oneA (code := code) (hi := hi) 3 ⟨hs, h0, h1⟩ (by omega)) fun v g => ⟨_, rfl, hs, g.2.1, g.2.2⟩
    refine bindE (P := fun v => SrcAt code (hi + 4) v.2) (condE (fun _ => ⟨_, rfl, hs, g.2.1, by have := g.2.2; show v.2.at_ ≤ _; omega⟩) (fun _ => bindE (P := fun v => SrcAt code (hi + 4) v.2) (condE (fun _ => ?_) (fun _ => ⟨_, rfl, hs, g.2.1, by have := g.2.2; show v.2.at_ ≤ _; omega⟩)) fun v g => ⟨_, rfl, hs, g.2.1, g.2.2⟩)) fun v g => ?_
    · exact bindE (oneA (code := code) (hi := hi + 2) 30 ⟨hs, g.2.1, g.2.2⟩ (by omega)) fun v g => ⟨_, rfl, hs, g.2.1, by have := g.2.2; show v.2.at_ ≤ _; omega⟩
    refine condE (fun _ => appE (by unfold LIM; simp; omega) ?_) fun _ => ?_
    · exact ih (j + 1) N _ _ (hi + 4) nm l h _ (by omega) (by omega) g.2.1 g.2.2 (by omega) (by simp; omega) (fun a' sd' ns' w1 w2 w3 => k a' sd' ns' w1 (by omega) w3)
    · exact ih (j + 1) N _ _ (hi + 4) nm l h _ (by omega) (by omega) g.2.1 g.2.2 (by omega) (by omega) (fun a' sd' ns' w1 w2 w3 => k a' sd' ns' w1 (by omega) w3)
def N7 : List Str := [[104, 111, 109, 101], [117, 112, 112, 101, 114], [108, 111, 119, 101, 114], [100, 105, 103, 105, 116, 115], [115, 105, 103, 110, 115], [115, 112, 101, 101, 100], [108, 97, 115, 116, 45, 49]]
theorem n7_len : ∀ s ∈ N7, s.length ≤ 10 := by decide
def SzX (k : Nat) (x : Lesson) : Prop := x.letters.length ≤ 150 ∧ x.needs.length ≤ k ∧ x.name.length ≤ 150
def AllX (k : Nat) (L : List Lesson) : Prop := ∀ x ∈ L, SzX k x
theorem AllX.up {k : Nat} {L : List Lesson} (h : AllX k L) : AllX (k + 1) L := fun x hx => ⟨(h x hx).1, by have := (h x hx).2.1; omega, (h x hx).2.2⟩
theorem AllX.snoc {k : Nat} {L : List Lesson} (h : AllX k L) {x : Lesson} (hx : SzX k x) : AllX k (L ++ [x]) := fun y hy => by
  rcases List.mem_append.1 hy with hy | hy
  · exact h y hy
  · rw [List.mem_singleton.1 hy]; exact hx
theorem AllX.set {k : Nat} {L : List Lesson} (h : AllX k L) (i : Nat) {x : Lesson} (hx : SzX k x) : AllX k (L.set i x) := fun y hy => by
  rcases List.mem_or_eq_of_mem_set hy with hy | hy
  · exact h y hy
  · rw [hy]; exact hx
theorem dl_l1 {code : List UInt8} (s : L00Src) (hs : s.code = code) (m : Nat) (hm : m ≤ 7) (r7 : Int × L00Src) (hr : r7.1 = (m : Int)) (kj : Int → Int → List Lesson → Option (List Lesson × L00Src)) (Q : List Lesson × L00Src → Prop) : ∀ (n i N : Nat) (a sd hi : Int) (L : List Lesson), i + n = m → n + 1200 < N → 0 ≤ a → a ≤ hi → hi + 200 * n ≤ 1000000 → L.length = i → AllX 100 L →
    (∀ a' sd' L', 0 ≤ a' → a' ≤ hi + 200 * n → L'.length ≤ 7 → AllX 100 L' → ∃ r, kj a' sd' L' = some r ∧ Q r) → ∃ r, s_l18Draw_l1 kj s r7 N a sd L (i : Int) = some r ∧ Q r := by
  intro n
  induction n with
  | zero =>
    intro i N a sd hi L hi1 hN h0 h1 h2 h3 h4 k
    obtain ⟨N, rfl⟩ := pos_fuel hN
    have hz : ¬ (i : Int) < (m : Int) := by omega
    simp only [s_l18Draw_l1, hr, hz, decide_false, cond_false]
    exact k a sd L h0 (by omega) (by omega) h4
  | succ n ih =>
    intro i N a sd hi L hi1 hN h0 h1 h2 h3 h4 k
    obtain ⟨N, rfl⟩ := pos_fuel hN
    have hz : (i : Int) < (m : Int) := by omega
    have hn : idx N7 (i : Int) = some (N7[i]'(by simp [N7]; omega)) := idx_lt N7 i (by simp [N7]; omega)
    have hnl := n7_len _ (List.getElem_mem (l := N7) (n := i) (by simp [N7]; omega))
    unfold N7 at hn
    simp only [s_l18Draw_l1, hr, hz, decide_true, cond_true, withK_n, hn, Option.bind_some, w64_nat i (by omega)]
    refine bindE (pickA (code := code) (hi := hi) 12 ⟨hs, h0, h1⟩ (by omega)) fun v g => ?_
    refine bindE (pickA (code := code) (hi := hi + 2) 5 ⟨hs, g.1.2.1, g.1.2.2⟩ (by omega)) fun v2 g2 => ?_
    obtain ⟨p, hp⟩ := Int.eq_ofNat_of_zero_le g2.2.1
    have gc := g2.2.2 (by omega)
    rw [hp] at gc ⊢
    refine dl_l2 (code := code) s hs _ Q p N _ _ (hi + 2 + 2) _ [] _ (by omega) g2.1.2.1 g2.1.2.2 (by omega) (by simp; omega) fun a' sd' l' w1 w2 w3 => ?_
    have hz0 : (0 : Int) = ((0 : Nat) : Int) := rfl
    rw [hz0]
    refine dl_l3 (code := code) s hs m (by omega) r7 hr (i : Int) _ Q m 0 N a' sd' (hi + 20) _ l' _ [] (by omega) (by omega) w1 (by omega) (by omega) (by simp) fun a2 sd2 ns z1 z2 z3 => ?_
    refine appE (by unfold LIM; simp; omega) ?_
    simp only [List.length_nil] at w3
    exact ih (i + 1) N a2 sd2 (hi + 200) _ (by omega) (by omega) z1 (by omega) (by omega) (by simp; omega) (h4.snoc ⟨by show l'.length ≤ 150; omega, by show ns.length ≤ 100; omega, Nat.le_trans hnl (by decide)⟩) (fun a3 sd3 L' y1 y2 y3 y4 => k a3 sd3 L' y1 (by omega) y3 y4)
theorem dDraw {code : List UInt8} {hi : Int} {s : L00Src} (h : SrcAt code hi s) (hb : hi ≤ 10000) (N : Nat) (hN : 1300 < N) : ∃ v, s_l18Draw N s = some v ∧ SrcAt code (hi + 2000) v.2 ∧ v.1.length ≤ 7 ∧ AllX 100 v.1 := by
  obtain ⟨hc, h0, h1⟩ := h
  unfold s_l18Draw
  simp only [withK_n]
  refine bindE (pickA (code := code) (hi := hi) 7 ⟨hc, h0, h1⟩ (by omega)) fun v g => ?_
  obtain ⟨p, hp⟩ := Int.eq_ofNat_of_zero_le g.2.1
  have gc := g.2.2 (by omega)
  rw [hp] at gc
  exact dl_l1 (code := code) s hc p (by omega) v hp _ _ p 0 N _ _ (hi + 2) [] (by omega) (by omega) g.1.2.1 g.1.2.2 (by omega) rfl (fun x hx => by cases hx) fun a' sd' L' w1 w2 w3 w4 => ⟨_, rfl, ⟨hc, w1, by show a' ≤ hi + 2000; omega⟩, w3, w4⟩
theorem bent_l1 (r20 : Int × L00Src) (kj : Int → Int → List Lesson → Option (List Lesson × L00Src)) (Q : List Lesson × L00Src → Prop) : ∀ (n N : Nat) (L : List Lesson), n < N → L.length + n ≤ 13 → AllX 100 L → (∀ L', L'.length ≤ 13 → AllX 100 L' → ∃ r, kj r20.2.at_ r20.2.seed L' = some r ∧ Q r) → ∃ r, s_l18Bent_l1 kj r20 N L (n : Int) = some r ∧ Q r := by
  intro n
  induction n with
  | zero =>
    intro N L hN h1 h2 k
    obtain ⟨N, rfl⟩ := pos_fuel hN
    have hz : ¬ ((0 : Nat) : Int) > 0 := by omega
    simp only [s_l18Bent_l1, hz, decide_false, cond_false]
    exact k L (by omega) h2
  | succ n ih =>
    intro N L hN h1 h2 k
    obtain ⟨N, rfl⟩ := pos_fuel hN
    have hz : ((n + 1 : Nat) : Int) > 0 := by omega
    have e2 : w64 (((n + 1 : Nat) : Int) - 1) = (n : Int) := by rw [w64_id (by omega) (by omega)]; omega
    simp only [s_l18Bent_l1, hz, decide_true, cond_true, e2]
    rw [cat_some _ _ (by unfold LIM; simp), Option.bind_some]
    refine appE (by unfold LIM; simp; omega) ?_
    exact ih N _ (by omega) (by simp; omega) (h2.snoc ⟨by simp, by simp, by simp⟩) k
theorem dBent {code : List UInt8} {hi : Int} {s : L00Src} (h : SrcAt code hi s) (hb : hi ≤ 5000) (N : Nat) (hN : 1300 < N) : ∃ v, s_l18Bent N s = some v ∧ SrcAt code (hi + 3000) v.2 ∧ v.1.length ≤ 13 ∧ AllX 101 v.1 := by
  obtain ⟨hc, h0, h1⟩ := h
  unfold s_l18Bent
  refine bindE (dDraw (code := code) (hi := hi) ⟨hc, h0, h1⟩ (by omega) N hN) fun v g => ?_
  simp only [withK_n]
  have rest : ∀ (a sd : Int) (L : List Lesson), 0 ≤ a → a ≤ hi + 2010 → L.length ≤ 13 → AllX 100 L → ∃ r, ((fun (x9 : Int) (x10 : Int) (l11 : List Lesson) =>
  bif ((List.length l11 : Int) == 0) then
  some (l11, (L00Src.mk s.code x9 x10))
  else
  (s_l00Src_pick (L00Src.mk s.code x9 x10) (List.length l11 : Int)).bind fun r39 =>
  (idx l11 r39.1).bind fun e41 =>
  (s_l00Src_pick (L00Src.mk s.code r39.2.at_ r39.2.seed) 24).bind fun r52 =>
  bif (r52.1 == 0) then
  (s_l00Src_text (L00Src.mk s.code r52.2.at_ r52.2.seed) ([[], [72, 111, 109, 101], [104, 111, 109, 101]] : List Str)).bind fun r56 =>
  some (List.set l11 (Int.toNat r39.1) (Lesson.mk r56.1 e41.letters e41.needs e41.hours), (L00Src.mk s.code r56.2.at_ r56.2.seed))
  else
  bif (r52.1 == 1) then
  (s_l00Src_text (L00Src.mk s.code r52.2.at_ r52.2.seed) ([[98, 97], [97, 97], [97, 32, 98], [127]] : List Str)).bind fun r60 =>
  some (List.set l11 (Int.toNat r39.1) (Lesson.mk e41.name r60.1 e41.needs e41.hours), (L00Src.mk s.code r60.2.at_ r60.2.seed))
  else
  bif (r52.1 == 2) then
  (s_l00Src_among (L00Src.mk s.code r52.2.at_ r52.2.seed) [(-1), w64 ((List.length l11 : Int) - 1), (List.length l11 : Int)]).bind fun r64 =>
  (app e41.needs [r64.1]).bind fun l67 =>
  some (List.set l11 (Int.toNat r39.1) (Lesson.mk e41.name e41.letters l67 e41.hours), (L00Src.mk s.code r64.2.at_ r64.2.seed))
  else
  bif (r52.1 == 3) then
  (s_l00Src_among (L00Src.mk s.code r52.2.at_ r52.2.seed) [(-1), 0, 100, 101, (-9223372036854775808)]).bind fun r75 =>
  some (List.set l11 (Int.toNat r39.1) (Lesson.mk e41.name e41.letters e41.needs r75.1), (L00Src.mk s.code r75.2.at_ r75.2.seed))
  else
  some (l11, (L00Src.mk s.code r52.2.at_ r52.2.seed))) a sd L) = some r ∧ SrcAt code (hi + 3000) r.2 ∧ r.1.length ≤ 13 ∧ AllX 101 r.1 := by
    intro a sd L g0 g1 g2 g3
    refine condE (fun _ => ⟨_, rfl, ⟨hc, g0, by show a ≤ _; omega⟩, g2, g3.up⟩) (fun hne => ?_)
    have hlen : 0 < L.length := by
      rcases Nat.eq_zero_or_pos L.length with h | h
      · rw [h] at hne; cases hne
      · exact h
    refine bindE (pickA (code := code) (hi := hi + 2010) (L.length : Int) ⟨hc, g0, g1⟩ (by omega)) fun v k => ?_
    obtain ⟨p, hp⟩ := Int.eq_ofNat_of_zero_le k.2.1
    have gc := k.2.2 (by omega)
    rw [hp] at gc ⊢
    rw [idx_lt L p (by omega), Option.bind_some]
    have hX := g3 L[p] (List.getElem_mem (by omega))
    refine bindE (pickA (code := code) (hi := hi + 2012) 24 ⟨hc, k.1.2.1, by have := k.1.2.2; show v.2.at_ ≤ _; omega⟩ (by omega)) fun v2 k2 => ?_
    have hs2 : SrcAt code (hi + 2014) (L00Src.mk s.code v2.2.at_ v2.2.seed) := ⟨hc, k2.1.2.1, by have := k2.1.2.2; show v2.2.at_ ≤ _; omega⟩
    have fin : ∀ (v : L00Src), SrcAt code (hi + 2014 + 2) v → SrcAt code (hi + 3000) (L00Src.mk s.code v.at_ v.seed) := fun v h => ⟨hc, h.2.1, by have := h.2.2; show v.at_ ≤ _; omega⟩
    refine condE (fun _ => bindE (textA _ (by decide) hs2 (by omega)) fun v3 k3 => ⟨_, rfl, fin _ k3.1, by simp; omega, g3.up.set _ ⟨hX.1, Nat.le_succ_of_le hX.2.1, ?_⟩⟩) (fun _ => condE (fun _ => bindE (textA _ (by decide) hs2 (by omega)) fun v3 k3 => ⟨_, rfl, fin _ k3.1, by simp; omega, g3.up.set _ ⟨?_, Nat.le_succ_of_le hX.2.1, hX.2.2⟩⟩) (fun _ => condE (fun _ => bindE (amongA _ (by simp) hs2 (by omega)) fun v3 k3 => ?_) (fun _ => condE (fun _ => bindE (amongA _ (by simp) hs2 (by omega)) fun v3 k3 => ⟨_, rfl, fin _ k3.1, by simp; omega, g3.up.set _ ⟨hX.1, Nat.le_succ_of_le hX.2.1, hX.2.2⟩⟩) (fun _ => ⟨_, rfl, ⟨hc, hs2.2.1, by have := k2.1.2.2; show v2.2.at_ ≤ _; omega⟩, g2, g3.up⟩))))
    · have : ∀ s ∈ ([[], [72, 111, 109, 101], [104, 111, 109, 101]] : List Str), s.length ≤ 150 := by decide
      exact this _ k3.2
    · have : ∀ s ∈ ([[98, 97], [97, 97], [97, 32, 98], [127]] : List Str), s.length ≤ 150 := by decide
      exact this _ k3.2
    · have h8 := hX.2.1
      refine appE (by unfold LIM; simp; omega) ⟨_, rfl, fin _ k3.1, by simp; omega, g3.up.set _ ⟨hX.1, ?_, hX.2.2⟩⟩
      show (L[p].needs ++ [v3.1]).length ≤ 101
      simp; omega
  refine bindE (oneA (code := code) (hi := hi + 2000) 30 ⟨hc, g.1.2.1, g.1.2.2⟩ (by omega)) fun v2 g2 => ?_
  refine condE (fun _ => bindE (pickA (code := code) (hi := hi + 2002) 2 ⟨hc, g2.2.1, by have := g2.2.2; show v2.2.at_ ≤ _; omega⟩ (by omega)) fun v3 g3 => ?_) (fun _ => rest _ _ _ g2.2.1 (by have := g2.2.2; omega) (by omega) g.2.2)
  obtain ⟨p, hp⟩ := Int.eq_ofNat_of_zero_le g3.2.1
  have gc := g3.2.2 (by omega)
  rw [hp] at gc ⊢
  have e : w64 (12 + (p : Int)) = ((12 + p : Nat) : Int) := by rw [w64_id (by omega) (by omega)]; omega
  rw [e]
  refine bent_l1 v3 _ _ (12 + p) N [] (by omega) (by simp; omega) (fun x hx => by cases hx) fun L' w1 w2 => ?_
  exact rest _ _ _ g3.1.2.1 (by have := g3.1.2.2; omega) w1 w2
theorem dt_l1 {code : List UInt8} (s : L00Src) (hs : s.code = code) (kj : Int → Int → List UInt8 → Option (Str × L00Src)) (Q : Str × L00Src → Prop) : ∀ (n N : Nat) (a sd hi : Int) (l : List UInt8), n < N → 0 ≤ a → a ≤ hi → hi + 2 * n ≤ 1000000 → l.length + n ≤ 200 →
    (∀ a' sd' l', 0 ≤ a' → a' ≤ hi + 2 * n → l'.length = l.length + n → ∃ r, kj a' sd' l' = some r ∧ Q r) → ∃ r, s_l18DrawText_l1 kj s N a sd l (n : Int) = some r ∧ Q r := by
  intro n
  induction n with
  | zero =>
    intro N a sd hi l hN h0 h1 h2 h3 k
    obtain ⟨N, rfl⟩ := pos_fuel hN
    have hz : ¬ ((0 : Nat) : Int) > 0 := by omega
    simp only [s_l18DrawText_l1, hz, decide_false, cond_false]
    exact k a sd l h0 (by omega) (by omega)
  | succ n ih =>
    intro N a sd hi l hN h0 h1 h2 h3 k
    obtain ⟨N, rfl⟩ := pos_fuel hN
    have hz : ((n + 1 : Nat) : Int) > 0 := by omega
    have e2 : w64 (((n + 1 : Nat) : Int) - 1) = (n : Int) := by rw [w64_id (by omega) (by omega)]; omega
    simp only [s_l18DrawText_l1, hz, decide_true, cond_true, e2]
    refine bindE (pickA (code := code) (hi := hi) 7 ⟨hs, h0, h1⟩ (by omega)) fun v g => ?_
    obtain ⟨p, hp⟩ := Int.eq_ofNat_of_zero_le g.2.1
    have gc := g.2.2 (by omega)
    rw [hp] at gc ⊢
    rw [idx_lt ([97, 115, 100, 102, 103, 104, 32] : Str) p (by simp; omega), Option.bind_some]
    refine appE (by unfold LIM; simp; omega) ?_
    exact ih N _ _ (hi + 2) _ (by omega) g.1.2.1 g.1.2.2 (by omega) (by simp; omega) (fun a' sd' l' w1 w2 w3 => k a' sd' l' w1 (by omega) (by simp at w3; omega))
theorem dText {code : List UInt8} {hi : Int} {s : L00Src} (h : SrcAt code hi s) (hb : hi ≤ 100000) (N : Nat) (hN : 200 < N) : ∃ v, s_l18DrawText N s = some v ∧ v.1.length ≤ 200 := by
  obtain ⟨hc, h0, h1⟩ := h
  unfold s_l18DrawText
  simp only [withK_n]
  have rest : ∀ (a sd : Int) (n : Nat), 0 ≤ a → a ≤ hi + 10 → n ≤ 150 → ∃ r, (s_l18DrawText_l1 (fun (x18 : Int) (x19 : Int) (l20 : List UInt8) =>
  (bif decide ((n : Int) > 0) then (s_l00Src_one (L00Src.mk s.code x18 x19) 16).bind fun r47 =>
  some (r47.1, (L00Src.mk s.code r47.2.at_ r47.2.seed)) else some (false, (L00Src.mk s.code x18 x19))).bind fun x45 =>
  bif x45.1 then
  (s_l00Src_pick (L00Src.mk s.code x45.2.at_ x45.2.seed) 4).bind fun r50 =>
  (idx [49, 122, 126, 127] r50.1).bind fun c52 =>
  (idx l20 0).bind fun e54 =>
  some (List.set l20 (Int.toNat 0) c52, (L00Src.mk s.code r50.2.at_ r50.2.seed))
  else
  some (l20, (L00Src.mk s.code x45.2.at_ x45.2.seed))) s N a sd [] (n : Int)) = some r ∧ r.1.length ≤ 200 := by
    intro a sd n g0 g1 g2
    by_cases hn : N ≤ n
    · omega
    refine dt_l1 (code := code) s hc _ _ n N a sd (hi + 10) [] (by omega) g0 g1 (by omega) (by simp; omega) fun a' sd' l' w1 w2 w3 => ?_
    simp only [List.length_nil, Nat.zero_add] at w3
    refine bindE (P := fun v => SrcAt code (hi + 1000) v.2 ∧ (v.1 = true → 0 < n)) (condE (fun hp => bindE (oneA (code := code) (hi := hi + 900) 16 ⟨hc, w1, by show a' ≤ _; omega⟩ (by omega)) fun v g => ⟨_, rfl, ⟨hc, g.2.1, by have := g.2.2; show v.2.at_ ≤ _; omega⟩, fun _ => ?_⟩) (fun _ => ⟨_, rfl, ⟨hc, w1, by show a' ≤ _; omega⟩, fun h => by cases h⟩)) fun v g => ?_
    · have := of_decide_eq_true hp; omega
    refine condE (fun hv => bindE (pickA (code := code) (hi := hi + 1000) 4 ⟨hc, g.1.2.1, g.1.2.2⟩ (by omega)) fun v2 g2 => ?_) (fun _ => ⟨_, rfl, by show l'.length ≤ 200; omega⟩)
    obtain ⟨p, hp⟩ := Int.eq_ofNat_of_zero_le g2.2.1
    have gc := g2.2.2 (by omega)
    rw [hp] at gc ⊢
    have h0' := g.2 hv
    rw [idx_lt ([49, 122, 126, 127] : Str) p (by simp; omega), Option.bind_some, show (0 : Int) = ((0 : Nat) : Int) from rfl, idx_lt l' 0 (by omega), Option.bind_some]
    exact ⟨_, rfl, by simp; omega⟩
  refine bindE (pickA (code := code) (hi := hi) 7 ⟨hc, h0, h1⟩ (by omega)) fun v g => ?_
  refine bindE (oneA (code := code) (hi := hi + 2) 24 ⟨hc, g.1.2.1, g.1.2.2⟩ (by omega)) fun v2 g2 => ?_
  obtain ⟨p, hp⟩ := Int.eq_ofNat_of_zero_le g.2.1
  have gc := g.2.2 (by omega)
  rw [hp] at gc ⊢
  refine condE (fun _ => bindE (pickA (code := code) (hi := hi + 4) 2 ⟨hc, g2.2.1, by have := g2.2.2; show v2.2.at_ ≤ _; omega⟩ (by omega)) fun v3 g3 => ?_) (fun _ => rest _ _ p g2.2.1 (by have := g2.2.2; omega) (by omega))
  obtain ⟨p2, hp2⟩ := Int.eq_ofNat_of_zero_le g3.2.1
  have gc2 := g3.2.2 (by omega)
  rw [hp2] at gc2 ⊢
  have e : w64 (100 + (p2 : Int)) = ((100 + p2 : Nat) : Int) := by rw [w64_id (by omega) (by omega)]; omega
  rw [e]
  exact rest _ _ (100 + p2) g3.1.2.1 (by have := g3.1.2.2; omega) (by omega)
theorem AllX.sz {k : Nat} {L : List Lesson} (h : AllX k L) (hk : k ≤ 200) (hl : L.length ≤ 13) : SzL L := ⟨by omega, fun x hx => ⟨by have := (h x hx).1; omega, by have := (h x hx).2.1; omega, by have := (h x hx).2.2; omega⟩⟩
theorem dLessons (code : List UInt8) (N : Nat) (hN : 1300 < N) : ∃ L s, s_DrawLessonsForText N code = some (L, s) ∧ SzL L ∧ s.length ≤ 200 := by
  have : ∃ v, s_DrawLessonsForText N code = some v ∧ SzL v.1 ∧ v.2.length ≤ 200 := by
    unfold s_DrawLessonsForText s_l18With
    rw [fromA, Option.bind_some]
    refine bindE (P := fun v => SzL v.1 ∧ v.2.length ≤ 200) ?_ fun v g => ⟨_, rfl, g⟩
    refine bindE (dBent (code := code) (hi := 0) ⟨rfl, Int.le_refl _, Int.le_refl _⟩ (by omega) N hN) fun v g => ?_
    refine bindE (dText (code := code) (hi := 0 + 3000) (s := L00Src.mk code v.2.at_ v.2.seed) ⟨rfl, g.1.2.1, g.1.2.2⟩ (by omega) N (by omega)) fun v2 g2 => ⟨_, rfl, g.2.2.sz (by decide) g.2.1, g2⟩
  obtain ⟨⟨L, s⟩, h1, h2⟩ := this
  exact ⟨L, s, h1, h2⟩
theorem some_l1 {code : List UInt8} (s : L00Src) (hs : s.code = code) (r5 : List Lesson × L00Src) (hr : r5.1.length ≤ 13) (kj : List Int → Int → Int → Option (List Lesson × List Int × L00Src)) (Q : List Lesson × List Int × L00Src → Prop) : ∀ (n i N : Nat) (a sd hi : Int) (l : List Int), i + n = r5.1.length → n < N → 0 ≤ a → a ≤ hi → hi + 2 * n ≤ 1000000 → l.length ≤ i →
    (∀ a' sd' l', 0 ≤ a' → a' ≤ hi + 2 * n → l'.length ≤ 13 → ∃ r, kj l' a' sd' = some r ∧ Q r) → ∃ r, s_l18Some_l1 kj s r5 N l a sd (i : Int) = some r ∧ Q r := by
  intro n
  induction n with
  | zero =>
    intro i N a sd hi l hi1 hN h0 h1 h2 h3 k
    obtain ⟨N, rfl⟩ := pos_fuel hN
    have hz : ¬ (i : Int) < (r5.1.length : Int) := by omega
    simp only [s_l18Some_l1, hz, decide_false, cond_false]
    exact k a sd l h0 (by omega) (by omega)
  | succ n ih =>
    intro i N a sd hi l hi1 hN h0 h1 h2 h3 k
    obtain ⟨N, rfl⟩ := pos_fuel hN
    have hz : (i : Int) < (r5.1.length : Int) := by omega
    simp only [s_l18Some_l1, hz, decide_true, cond_true, withK_n, w64_nat i (by omega)]
    refine bindE (oneA (code := code) (hi := hi) 2 ⟨hs, h0, h1⟩ (by omega)) fun v g => ?_
    refine condE (fun _ => appE (by unfold LIM; simp; omega) ?_) fun _ => ?_
    · exact ih (i + 1) N _ _ (hi + 2) _ (by omega) (by omega) g.2.1 g.2.2 (by omega) (by simp; omega) (fun a' sd' l' w1 w2 w3 => k a' sd' l' w1 (by omega) w3)
    · exact ih (i + 1) N _ _ (hi + 2) _ (by omega) (by omega) g.2.1 g.2.2 (by omega) (by omega) (fun a' sd' l' w1 w2 w3 => k a' sd' l' w1 (by omega) w3)
theorem dSome {code : List UInt8} {s : L00Src} (h : SrcAt code 0 s) (N : Nat) (hN : 1300 < N) : ∃ v, s_l18Some N s = some v ∧ SzL v.1 ∧ v.2.1.length ≤ 20 ∧ SrcAt code 4000 v.2.2 := by
  obtain ⟨hc, h0, h1⟩ := h
  unfold s_l18Some
  refine bindE (dBent (code := code) (hi := 0) ⟨hc, h0, h1⟩ (by omega) N hN) fun v g => ?_
  simp only [withK_n]
  have hg := g.2.2.sz (by decide) g.2.1
  refine some_l1 (code := code) s hc v g.2.1 _ _ v.1.length 0 N _ _ (0 + 3000) [] (by omega) (by omega) g.1.2.1 g.1.2.2 (by omega) (by simp) fun a' sd' l' w1 w2 w3 => ?_
  refine bindE (oneA (code := code) (hi := 3100) 14 ⟨hc, w1, by show a' ≤ _; omega⟩ (by omega)) fun v2 g2 => ?_
  refine condE (fun _ => bindE (amongA (code := code) (hi := 3102) _ (by simp) ⟨hc, g2.2.1, g2.2.2⟩ (by omega)) fun v3 g3 => ?_) (fun _ => ⟨_, rfl, hg, by show l'.length ≤ 20; omega, hc, g2.2.1, by have := g2.2.2; show v2.2.at_ ≤ _; omega⟩)
  refine appE (by unfold LIM; simp; omega) ⟨_, rfl, hg, by show (l' ++ [v3.1]).length ≤ 20; simp; omega, hc, g3.1.2.1, by have := g3.1.2.2; show v3.2.at_ ≤ _; omega⟩
theorem dCanType (code : List UInt8) (N : Nat) (hN : 1300 < N) : ∃ L l s, s_DrawCanType N code = some (L, l, s) ∧ SzL L ∧ l.length ≤ 20 ∧ s.length ≤ 200 := by
  have : ∃ v, s_DrawCanType N code = some v ∧ SzL v.1 ∧ v.2.1.length ≤ 20 ∧ v.2.2.length ≤ 200 := by
    unfold s_DrawCanType
    rw [fromA, Option.bind_some]
    refine bindE (dSome (code := code) ⟨rfl, Int.le_refl _, Int.le_refl _⟩ N hN) fun v g => ?_
    exact bindE (dText (code := code) (hi := 4000) (s := L00Src.mk code v.2.2.at_ v.2.2.seed) ⟨rfl, g.2.2.2.1, g.2.2.2.2⟩ (by omega) N (by omega)) fun v2 g2 => ⟨_, rfl, g.1, g.2.1, g2⟩
  obtain ⟨⟨L, l, s⟩, h1, h2⟩ := this
  exact ⟨L, l, s, h1, h2⟩
end Go.Proofs.Ytbgngihmpdneaaa
