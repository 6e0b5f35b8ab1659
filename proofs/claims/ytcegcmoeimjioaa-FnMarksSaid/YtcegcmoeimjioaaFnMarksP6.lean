/-
  Plain lemmas on these functions. No conditions but those that each states.
-/
import Derived.Test.YtcegcmoeimjioaaFnMarksP5
namespace Go.Proofs.Ytcegcmoeimjioaa
set_option linter.unusedVariables false
set_option linter.unusedSimpArgs false
/-! Drawn texts. -/
def CH (s : Str) : Prop := ∀ c ∈ s, 32 ≤ c.toNat ∧ c.toNat ≤ 126
theorem CH.app {a b : Str} (ha : CH a) (hb : CH b) : CH (a ++ b) := fun c hc => by
  rcases List.mem_append.1 hc with h | h
  · exact ha c h
  · exact hb c h
theorem CH.set {a : Str} (ha : CH a) (i : Nat) (c : UInt8) (hc : 32 ≤ c.toNat ∧ c.toNat ≤ 126) : CH (a.set i c) := fun x hx => by
  rcases List.mem_or_eq_of_mem_set hx with hx | rfl
  · exact ha x hx
  · exact hc
theorem CH.one {c : UInt8} (hc : 32 ≤ c.toNat ∧ c.toNat ≤ 126) : CH [c] := fun x hx => by rw [List.mem_singleton.1 hx]; exact hc
theorem idx_mem {α : Type} {l : List α} {i : Int} (h0 : 0 ≤ i) (h1 : i < l.length) : ∃ c, idx l i = some c ∧ c ∈ l := ⟨_, idx_int l i h0 h1, List.getElem_mem _⟩
theorem want_l1 {code : List UInt8} (s : L00Src) (hs : s.code = code) (kj : Int → Int → List UInt8 → Option (Str × L00Src)) (Q : Str × L00Src → Prop) : ∀ (n N : Nat) (a sd hi : Int) (l : Str), n < N → 0 ≤ a → a ≤ hi → hi + 2 * n ≤ 1000000 → l.length + n ≤ 11 → CH l →
    (∀ a' sd' l', 0 ≤ a' → a' ≤ hi + 2 * n → l'.length ≤ 11 → CH l' → ∃ r, kj a' sd' l' = some r ∧ Q r) → ∃ r, s_l19Draw_l1 kj s N a sd l (n : Int) = some r ∧ Q r := by
  intro n
  induction n with
  | zero =>
    intro N a sd hi l hN h0 h1 h2 h3 h4 k
    obtain ⟨N, rfl⟩ := pos_fuel hN
    have hz : ¬ ((0 : Nat) : Int) > 0 := by omega
    simp only [s_l19Draw_l1, hz, decide_false, cond_false]
    exact k a sd l h0 (by omega) (by omega) h4
  | succ n ih =>
    intro N a sd hi l hN h0 h1 h2 h3 h4 k
    obtain ⟨N, rfl⟩ := pos_fuel hN
    have hz : ((n + 1 : Nat) : Int) > 0 := by omega
    have e2 : w64 (((n + 1 : Nat) : Int) - 1) = (n : Int) := by rw [w64_id (by omega) (by omega)]; omega
    simp only [s_l19Draw_l1, hz, decide_true, cond_true, e2]
    refine bindE (pickA (code := code) (hi := hi) 6 ⟨hs, h0, h1⟩ (by omega)) fun v g => ?_
    obtain ⟨c, q1, q2⟩ := idx_mem (l := ([97, 101, 104, 110, 116, 32] : Str)) g.2.1 (by have := g.2.2 (by omega); show v.1 < 6; omega)
    rw [q1, Option.bind_some]
    have hc : ∀ x ∈ ([97, 101, 104, 110, 116, 32] : Str), 32 ≤ x.toNat ∧ x.toNat ≤ 126 := by decide
    refine appE (by unfold LIM; simp; omega) ?_
    exact ih N _ _ (hi + 2) _ (by omega) g.1.2.1 g.1.2.2 (by omega) (by simp; omega) (h4.app (.one (hc c q2))) (fun a' sd' l' w1 w2 w3 w4 => k a' sd' l' w1 (by omega) w3 w4)
theorem near_l1 {code : List UInt8} (s : L00Src) (hs : s.code = code) (kj : Int → Int → List UInt8 → Option (Str × L00Src)) (Q : Str × L00Src → Prop) : ∀ (n N : Nat) (a sd hi : Int) (l : Str), n < N → 0 ≤ a → a ≤ hi → hi + 6 * n ≤ 1000000 → l.length + n ≤ 14 → CH l →
    (∀ a' sd' l', l'.length ≤ 14 → CH l' → ∃ r, kj a' sd' l' = some r ∧ Q r) → ∃ r, s_l19Near_l1 kj s N a sd l (n : Int) = some r ∧ Q r := by
  intro n
  induction n with
  | zero =>
    intro N a sd hi l hN h0 h1 h2 h3 h4 k
    obtain ⟨N, rfl⟩ := pos_fuel hN
    have hz : ¬ ((0 : Nat) : Int) > 0 := by omega
    simp only [s_l19Near_l1, hz, decide_false, andO_false, Option.bind_some, cond_false]
    exact k a sd l (by omega) h4
  | succ n ih =>
    intro N a sd hi l hN h0 h1 h2 h3 h4 k
    obtain ⟨N, rfl⟩ := pos_fuel hN
    have hz : ((n + 1 : Nat) : Int) > 0 := by omega
    have e2 : w64 (((n + 1 : Nat) : Int) - 1) = (n : Int) := by rw [w64_id (by omega) (by omega)]; omega
    simp only [s_l19Near_l1, hz, decide_true, andO_true, Option.bind_some, withK_eq, e2]
    refine condE (fun hc => ?_) (fun _ => k a sd l (by omega) h4)
    have hl1 := of_decide_eq_true hc
    have fin : ∀ (a' sd' : Int) (l' : Str), 0 ≤ a' → a' ≤ hi + 6 → l'.length ≤ l.length + 1 → CH l' → ∃ r, s_l19Near_l1 kj s N a' sd' l' (n : Int) = some r ∧ Q r := fun a' sd' l' w1 w2 w3 w4 => ih N a' sd' (hi + 6) l' (by omega) w1 w2 (by omega) (by omega) w4 k
    rw [w64_id (x := (l.length : Int) - 1) (by omega) (by omega)]
    refine bindE (pickA (code := code) (hi := hi) ((l.length : Int) - 1) ⟨hs, h0, h1⟩ (by omega)) fun v1 g1 => ?_
    have c1 := g1.2.2 (by omega)
    obtain ⟨p, hp⟩ := Int.eq_ofNat_of_zero_le g1.2.1
    have hpl : p + 1 < l.length := by omega
    rw [hp]
    refine bindE (pickA (code := code) (hi := hi + 2) 4 ⟨hs, g1.1.2⟩ (by omega)) fun v2 g2 => ?_
    have g22 : v2.2.at_ ≤ hi + 6 := by have := g2.1.2.2; omega
    have hp1 : w64 ((p : Int) + 1) = ((p + 1 : Nat) : Int) := w64_nat p (by omega)
    refine condE (fun _ => ?_) fun _ => condE (fun _ => ?_) fun _ => condE (fun _ => ?_) fun _ => ?_
    · refine bindE (pickA (code := code) (hi := hi + 2 + 2) 4 ⟨hs, g2.1.2⟩ (by omega)) fun v3 g3 => ?_
      obtain ⟨c, q1, q2⟩ := idx_mem (l := ([120, 121, 97, 101] : Str)) g3.2.1 (by have := g3.2.2 (by omega); show v3.1 < 4; omega)
      have hcc : ∀ x ∈ ([120, 121, 97, 101] : Str), 32 ≤ x.toNat ∧ x.toNat ≤ 126 := by decide
      rw [q1, Option.bind_some, idx_lt l p (by omega), Option.bind_some]
      exact fin _ _ _ g3.1.2.1 (by have := g3.1.2.2; omega) (by simp) (h4.set _ _ (hcc c q2))
    · rw [idx_lt l p (by omega), Option.bind_some, hp1, idx_lt l (p + 1) hpl, Option.bind_some, Option.bind_some, Int.toNat_natCast]
      have hi2 : idx (l.set p l[p + 1]) ((p + 1 : Nat) : Int) = some ((l.set p l[p + 1])[p + 1]'(by simpa using hpl)) := idx_lt _ _ (by simpa using hpl)
      rw [hi2, Option.bind_some]
      exact fin _ _ _ g2.1.2.1 g22 (by simp) ((h4.set _ _ (h4 _ (List.getElem_mem _))).set _ _ (h4 _ (List.getElem_mem _)))
    · have s1 : sub l 0 (p : Int) = some (l.take p) := by rw [sub_some l 0 p (by omega) (by omega) (by omega)]; simp
      have s2 : sub l ((p + 1 : Nat) : Int) (l.length : Int) = some (l.drop (p + 1)) := subE l (p + 1) (by omega)
      rw [s1, Option.bind_some, app_some _ _ (by unfold LIM; simp; omega), Option.bind_some, hp1, s2, Option.bind_some, List.nil_append, app_some _ _ (by unfold LIM; simp; omega), Option.bind_some]
      exact fin _ _ _ g2.1.2.1 g22 (by simp; omega) (CH.app (fun c hc => h4 c (List.mem_of_mem_take hc)) (fun c hc => h4 c (List.mem_of_mem_drop hc)))
    · have s1 : sub l 0 (p : Int) = some (l.take p) := by rw [sub_some l 0 p (by omega) (by omega) (by omega)]; simp
      have s2 : sub l (p : Int) (l.length : Int) = some (l.drop p) := subE l p (by omega)
      rw [s1, Option.bind_some, app_some _ _ (by unfold LIM; simp; omega), Option.bind_some, List.nil_append]
      refine bindE (pickA (code := code) (hi := hi + 2 + 2) 2 ⟨hs, g2.1.2⟩ (by omega)) fun v3 g3 => ?_
      obtain ⟨c, q1, q2⟩ := idx_mem (l := ([113, 116] : Str)) g3.2.1 (by have := g3.2.2 (by omega); show v3.1 < 2; omega)
      have hcc : ∀ x ∈ ([113, 116] : Str), 32 ≤ x.toNat ∧ x.toNat ≤ 126 := by decide
      rw [q1, Option.bind_some, app_some _ _ (by unfold LIM; simp; omega), Option.bind_some, s2, Option.bind_some, app_some _ _ (by unfold LIM; simp; omega), Option.bind_some]
      exact fin _ _ _ g3.1.2.1 (by have := g3.1.2.2; omega) (by simp; omega) (CH.app (CH.app (fun c hc => h4 c (List.mem_of_mem_take hc)) (.one (hcc c q2))) (fun c hc => h4 c (List.mem_of_mem_drop hc)))
theorem typed_ok (code : List UInt8) (N : Nat) (hN : 50 < N) : ∃ v, s_A2Typed N code = some v ∧ v.1.length ≤ 11 ∧ CH v.1 ∧ v.2.length ≤ 14 ∧ CH v.2 := by
  unfold s_A2Typed s_l19Draw
  rw [fromA]
  simp only [Option.bind_some, withK_eq]
  have k1 : ∃ r, ((s_l00Src_pick (L00Src.mk code 0 0) 12).bind fun r12 => s_l19Draw_l1 (fun (x6 : Int) (x7 : Int) (l8 : List UInt8) => some (l8, (L00Src.mk code x6 x7))) (L00Src.mk code 0 0) N r12.2.at_ r12.2.seed [] r12.1) = some r ∧ (r.1.length ≤ 11 ∧ CH r.1 ∧ SrcAt code 100 r.2) := by
    refine bindE (pickA (code := code) (hi := 0) 12 ⟨rfl, Int.le_refl _, Int.le_refl _⟩ (by omega)) fun v g => ?_
    have c := g.2.2 (by omega)
    obtain ⟨k, hk⟩ := Int.eq_ofNat_of_zero_le g.2.1
    rw [hk]
    exact want_l1 (code := code) (L00Src.mk code 0 0) rfl _ (fun r => r.1.length ≤ 11 ∧ CH r.1 ∧ SrcAt code 100 r.2) k N _ _ 2 [] (by omega) g.1.2.1 (by have := g.1.2.2; omega) (by omega) (by simp; omega) (fun c hc => by cases hc)
      (fun a' sd' l' w1 w2 w3 w4 => ⟨_, rfl, w3, w4, rfl, w1, by show a' ≤ 100; omega⟩)
  obtain ⟨r, e1, h1, h2, h3⟩ := k1
  rw [e1, Option.bind_some]
  unfold s_l19Near
  rw [app_some _ _ (by unfold LIM; simp; omega), Option.bind_some, List.nil_append]
  simp only [withK_eq]
  have k2 : ∃ q, ((s_l00Src_pick (L00Src.mk code r.2.at_ r.2.seed) 4).bind fun r15 => s_l19Near_l1 (fun (x9 : Int) (x10 : Int) (l11 : List UInt8) => some (l11, (L00Src.mk code x9 x10))) (L00Src.mk code r.2.at_ r.2.seed) N r15.2.at_ r15.2.seed r.1 r15.1) = some q ∧ (q.1.length ≤ 14 ∧ CH q.1) := by
    refine bindE (pickA (code := code) (hi := 100) 4 ⟨rfl, h3.2⟩ (by omega)) fun v g => ?_
    have c := g.2.2 (by omega)
    obtain ⟨k, hk⟩ := Int.eq_ofNat_of_zero_le g.2.1
    rw [hk]
    exact near_l1 (code := code) (L00Src.mk code r.2.at_ r.2.seed) rfl _ (fun r => r.1.length ≤ 14 ∧ CH r.1) k N _ _ 102 r.1 (by omega) g.1.2.1 g.1.2.2 (by omega) (by omega) h2
      (fun a' sd' l' w3 w4 => ⟨_, rfl, w3, w4⟩)
  obtain ⟨q, e2, g1, g2⟩ := k2
  rw [e2, Option.bind_some]
  exact ⟨_, rfl, h1, h2, g1, g2⟩
end Go.Proofs.Ytcegcmoeimjioaa
