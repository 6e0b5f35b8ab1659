/-
  Plain lemmas on these functions. No conditions but those that each states.
-/
import Derived.Test.YtpodlgibcfbbiaaDoorFnPressesP8
namespace Go.Proofs.YtpodlgibcfbbiaaDoor
set_option linter.unusedVariables false
set_option linter.unusedSimpArgs false
/-! Drawn keys and accents. -/
def SizeK (x : List Key × List Accent × L00Src) : Prop := x.1.length ≤ 50 ∧ x.2.1.length ≤ 50
theorem sub_one (l : Str) (i : Nat) (h : i < l.length) : sub l (i : Int) (((i + 1 : Nat)) : Int) = some [l[i]] := by
  rw [sub_some l _ _ (by omega) (by omega) (by omega)]
  have e1 : ((i : Int)).toNat = i := by omega
  have e2 : (((i + 1 : Nat)) : Int).toNat = i + 1 := by omega
  rw [e1, e2, show i + 1 - i = 1 by omega, List.drop_eq_getElem_cons h]
  rfl
theorem sub_oneE {α : Type} {l : Str} {i : Int} {f : Str → Option α} {Q : α → Prop} (h0 : 0 ≤ i) (h : i < l.length) (hl : l.length ≤ 100000) (k : ∀ c : UInt8, c ∈ l → ∃ r, f [c] = some r ∧ Q r) : ∃ r, (sub l i (w64 (i + 1))).bind f = some r ∧ Q r := by
  obtain ⟨n, rfl⟩ := Int.eq_ofNat_of_zero_le h0
  rw [w64_nat n (by omega), sub_one l n (by omega)]
  exact k _ (List.getElem_mem _)
theorem drawK_l1 {code : List UInt8} (s : L00Src) (hs : s.code = code) (kj : List Key → Int → Int → Option (List Key × List Accent × L00Src)) (Q : List Key × List Accent × L00Src → Prop) : ∀ (n i N : Nat) (l : List Key) (a sd hi : Int), i + n = 8 → n < N → l.length ≤ i → 0 ≤ a → a ≤ hi → hi + 2 * n ≤ 1000000 →
    (∀ l' a' sd', l'.length ≤ 8 → 0 ≤ a' → a' ≤ hi + 2 * n → ∃ r, kj l' a' sd' = some r ∧ Q r) → ∃ r, s_l02Draw_l1 kj s N l a sd (i : Int) = some r ∧ Q r := by
  intro n
  induction n with
  | zero =>
    intro i N l a sd hi h1 hN h2 h3 h4 h5 k
    obtain ⟨N, rfl⟩ := pos_fuel hN
    simp only [s_l02Draw_l1, withK_eq]
    refine condE (fun c => ?_) fun c => k l a sd (by omega) h3 (by omega)
    have hz : (i : Int) < 8 := of_decide_eq_true c
    omega
  | succ n ih =>
    intro i N l a sd hi h1 hN h2 h3 h4 h5 k
    obtain ⟨N, rfl⟩ := pos_fuel hN
    simp only [s_l02Draw_l1, withK_eq]
    refine condE (fun c => ?_) fun c => ?_
    · have hz : (i : Int) < 8 := of_decide_eq_true c
      refine bindE (oneA (code := code) (hi := hi) 4 ⟨hs, h3, h4⟩ (by omega)) fun v1 g1 => ?_
      have key : ∀ (l2 : List Key), l2.length ≤ i + 1 → ∃ r, s_l02Draw_l1 kj s N l2 v1.2.at_ v1.2.seed (w64 ((i : Int) + 1)) = some r ∧ Q r := fun l2 hl2 => by
        rw [w64_nat i (by omega)]
        exact ih (i + 1) N l2 _ _ (hi + 2) (by omega) (by omega) hl2 g1.2.1 g1.2.2 (by omega) fun l' a' sd' q1 q2 q3 => k l' a' sd' q1 q2 (by omega)
      refine condE (fun _ => key l (by omega)) fun _ => ?_
      refine sub_oneE (by omega) (by show (i : Int) < 8; omega) (by simp) fun c1 _ => ?_
      refine sub_oneE (by omega) (by show (i : Int) < 8; omega) (by simp) fun c2 _ => ?_
      refine appE (by unfold LIM; simp; omega) ?_
      exact key _ (by simp; omega)
    · have hz : ¬ (i : Int) < 8 := of_decide_eq_false c
      omega
theorem drawK_l2 {code : List UInt8} (s : L00Src) (hs : s.code = code) (keys : List Key) (hk : keys.length ≤ 50) (kj : List Accent → Int → Int → Option (List Key × List Accent × L00Src)) (Q : List Key × List Accent × L00Src → Prop) : ∀ (n i N : Nat) (l : List Accent) (a sd hi : Int), i + n = 6 → n + 4000 < N → l.length ≤ i → 0 ≤ a → a ≤ hi → hi + 4 * n ≤ 1000000 →
    (∀ l' a' sd', l'.length ≤ 6 → 0 ≤ a' → a' ≤ hi + 4 * n → ∃ r, kj l' a' sd' = some r ∧ Q r) → ∃ r, s_l02Draw_l2 kj s keys N l a sd (i : Int) = some r ∧ Q r := by
  intro n
  induction n with
  | zero =>
    intro i N l a sd hi h1 hN h2 h3 h4 h5 k
    obtain ⟨N, rfl⟩ := pos_fuel hN
    simp only [s_l02Draw_l2, withK_eq]
    refine condE (fun c => ?_) fun c => k l a sd (by omega) h3 (by omega)
    have hz : (i : Int) < 6 := of_decide_eq_true c
    omega
  | succ n ih =>
    intro i N l a sd hi h1 hN h2 h3 h4 h5 k
    obtain ⟨N, rfl⟩ := pos_fuel hN
    simp only [s_l02Draw_l2, withK_eq]
    refine condE (fun c => ?_) fun c => ?_
    · have hz : (i : Int) < 6 := of_decide_eq_true c
      refine bindE (textA (code := code) (hi := hi) _ (by simp) ⟨hs, h3, h4⟩ (by omega)) fun v1 g1 => ?_
      refine sub_oneE (by omega) (by show (i : Int) < 6; omega) (by simp) fun c1 _ => ?_
      refine bindE (pickA (code := code) (hi := hi + 2) _ ⟨hs, g1.1.2⟩ (by omega)) fun v2 g2 => ?_
      have g3 : v2.1 < 8 := g2.2.2 (by decide)
      refine sub_oneE g2.2.1 (by show v2.1 < 8; omega) (by simp) fun c2 _ => ?_
      rw [s_accent keys _ (by omega) N (by omega)]
      simp only [Option.bind_some]
      have key : ∀ (l2 : List Accent), l2.length ≤ i + 1 → ∃ r, s_l02Draw_l2 kj s keys N l2 v2.2.at_ v2.2.seed (w64 ((i : Int) + 1)) = some r ∧ Q r := fun l2 hl2 => by
        rw [w64_nat i (by omega)]
        exact ih (i + 1) N l2 _ _ (hi + 4) (by omega) (by omega) hl2 g2.1.2.1 (by have := g2.1.2.2; omega) (by omega) fun l' a' sd' q1 q2 q3 => k l' a' sd' q1 q2 (by omega)
      rw [app_some _ _ (by unfold LIM; simp; omega)]
      simp only [Option.bind_some, List.nil_append]
      rw [app_some _ _ (by unfold LIM; simp; omega)]
      simp only [Option.bind_some]
      rw [s_ok keys _ (by omega) (by simp; omega) N (by omega)]
      simp only [Option.bind_some, andO_some]
      exact condE (fun _ => key _ (by simp; omega)) fun _ => key _ (by omega)
    · have hz : ¬ (i : Int) < 6 := of_decide_eq_false c
      omega
theorem drawK {code : List UInt8} {hi : Int} (s : L00Src) (h : SrcAt code hi s) (hb : hi ≤ 900000) (N : Nat) (hN : 5000 < N) : ∃ v, s_l02Draw N s = some v ∧ SrcAt code (hi + 100) v.2.2 ∧ v.1.length ≤ 10 ∧ v.2.1.length ≤ 6 := by
  unfold s_l02Draw
  simp only [withK_eq]
  refine drawK_l1 s h.1 _ _ 8 0 N [] s.at_ s.seed hi (by omega) (by omega) (by simp) h.2.1 h.2.2 (by omega) fun l1 a1 sd1 p1 p2 p3 => ?_
  refine bindE (oneA (code := code) (hi := hi + 16) 2 ⟨h.1, p2, by show a1 ≤ _; omega⟩ (by omega)) fun v1 g1 => ?_
  have key : ∀ l2 : List Key, l2.length ≤ 10 → ∃ r, s_l02Draw_l2 (fun (l49 : List Accent) (x51 : Int) (x52 : Int) => some (l2, l49, (L00Src.mk s.code x51 x52))) s l2 N [] v1.2.at_ v1.2.seed 0 = some r ∧ SrcAt code (hi + 100) r.2.2 ∧ r.1.length ≤ 10 ∧ r.2.1.length ≤ 6 := fun l2 hl2 =>
    drawK_l2 s h.1 l2 (by omega) _ _ 6 0 N [] v1.2.at_ v1.2.seed (hi + 18) (by omega) (by omega) (by simp) g1.2.1 (by have := g1.2.2; omega) (by omega) fun l' a' sd' q1 q2 q3 => ⟨_, rfl, ⟨h.1, q2, by show a' ≤ _; omega⟩, hl2, q1⟩
  refine condE (fun _ => ?_) fun _ => key l1 (by omega)
  refine appE (by unfold LIM; simp; omega) ?_
  exact key _ (by simp; omega)
theorem bent_l1 (kj : Int → Int → List Key → Option (List Key × List Accent × L00Src)) (r : Int × L00Src) (Q : List Key × List Accent × L00Src → Prop) : ∀ (n N : Nat) (l : List Key), n < N → l.length + n ≤ 41 → (∀ l', l'.length ≤ 41 → ∃ q, kj r.2.at_ r.2.seed l' = some q ∧ Q q) → ∃ q, s_l02Bent_l1 kj r N l (n : Int) = some q ∧ Q q := by
  intro n
  induction n with
  | zero =>
    intro N l hN hl k
    obtain ⟨N, rfl⟩ := pos_fuel hN
    have hz : ¬ ((0 : Nat) : Int) > 0 := by omega
    simp only [s_l02Bent_l1, hz, decide_false, cond_false]
    exact k l (by omega)
  | succ n ih =>
    intro N l hN hl k
    obtain ⟨N, rfl⟩ := pos_fuel hN
    have hz : ((n + 1 : Nat) : Int) > 0 := by omega
    have e2 : w64 (((n + 1 : Nat) : Int) - 1) = (n : Int) := by rw [w64_id (by omega) (by omega)]; omega
    simp only [s_l02Bent_l1, hz, decide_true, cond_true, e2]
    refine appE (by unfold LIM; simp; omega) ?_
    exact ih N _ (by omega) (by simp; omega) k
theorem bent_l2 (kj : List Key → Option (List Key × List Accent × L00Src)) (Q : List Key × List Accent × L00Src → Prop) : ∀ (n i N : Nat) (l : List Key), i + n = 6 → n < N → l.length = 4 + i → (∀ l', l'.length = 10 → ∃ q, kj l' = some q ∧ Q q) → ∃ q, s_l02Bent_l2 kj N l (i : Int) = some q ∧ Q q := by
  intro n
  induction n with
  | zero =>
    intro i N l hi hN hl k
    obtain ⟨N, rfl⟩ := pos_fuel hN
    have hz : ¬ (i : Int) < 6 := by omega
    simp only [s_l02Bent_l2, hz, decide_false, cond_false]
    exact k l (by omega)
  | succ n ih =>
    intro i N l hi hN hl k
    obtain ⟨N, rfl⟩ := pos_fuel hN
    have hz : (i : Int) < 6 := by omega
    simp only [s_l02Bent_l2, hz, decide_true, cond_true, w64_nat i (show i < 9223372036854775807 by omega)]
    refine appE (by unfold LIM; simp; omega) ?_
    exact ih (i + 1) N _ (by omega) (by omega) (by simp; omega) k
theorem bent_l3 (kj : Int → Int → List Key → List Accent → Option (List Key × List Accent × L00Src)) (l72 : List Key) (hk : l72.length = 10) (r : Int × L00Src) (Q : List Key × List Accent × L00Src → Prop) : ∀ (n N : Nat) (l : List Accent), n < N → l.length + n ≤ 21 → (∀ l', l'.length ≤ 21 → ∃ q, kj r.2.at_ r.2.seed l72 l' = some q ∧ Q q) → ∃ q, s_l02Bent_l3 kj l72 r N l (n : Int) = some q ∧ Q q := by
  intro n
  induction n with
  | zero =>
    intro N l hN hl k
    obtain ⟨N, rfl⟩ := pos_fuel hN
    have hz : ¬ ((0 : Nat) : Int) > 0 := by omega
    simp only [s_l02Bent_l3, hz, decide_false, cond_false]
    exact k l (by omega)
  | succ n ih =>
    intro N l hN hl k
    obtain ⟨N, rfl⟩ := pos_fuel hN
    have hz : ((n + 1 : Nat) : Int) > 0 := by omega
    have e2 : w64 (((n + 1 : Nat) : Int) - 1) = (n : Int) := by rw [w64_id (by omega) (by omega)]; omega
    have e3 : Int.tdiv (l.length : Int) 6 = ((l.length / 6 : Nat) : Int) := by rw [Int.tdiv_eq_ediv_of_nonneg (by omega)]; omega
    have e4 : Int.tmod (l.length : Int) 6 = ((l.length % 6 : Nat) : Int) := by rw [Int.tmod_eq_emod_of_nonneg (by omega)]; omega
    have e5 : w64 ((l.length / 6 : Nat) : Int) = ((l.length / 6 : Nat) : Int) := w64_id (by omega) (by omega)
    have e6 : w64 (4 + ((l.length % 6 : Nat) : Int)) = ((4 + l.length % 6 : Nat) : Int) := by rw [w64_id (by omega) (by omega)]; omega
    simp only [s_l02Bent_l3, hz, decide_true, cond_true, e2, e3, e4, e5, e6]
    refine sub_oneE (by omega) (by show ((l.length / 6 : Nat) : Int) < 4; omega) (by simp) fun c1 _ => ?_
    rw [idx_lt l72 (4 + l.length % 6) (by omega)]
    simp only [Option.bind_some]
    refine appE (by unfold LIM; simp; omega) ?_
    exact ih N _ (by omega) (by simp; omega) k
theorem bent {code : List UInt8} {hi : Int} (s : L00Src) (h : SrcAt code hi s) (hb : hi ≤ 900000) (N : Nat) (hN : 5000 < N) : ∃ v, s_l02Bent N s = some v ∧ SrcAt code (hi + 200) v.2.2 ∧ v.1.length ≤ 41 ∧ v.2.1.length ≤ 21 := by
  unfold s_l02Bent
  simp only [withK_eq]
  refine bindE (drawK (code := code) (hi := hi) ⟨s.code, s.at_, s.seed⟩ h (by omega) N hN) fun v1 g1 => ?_
  obtain ⟨g1, b1, b2⟩ := g1
  have fin : ∀ (x y : Int) (l : List Key) (m : List Accent), 0 ≤ x → x ≤ hi + 200 → l.length ≤ 41 → m.length ≤ 21 → ∃ r, (some (l, m, (L00Src.mk s.code x y)) : Option (List Key × List Accent × L00Src)) = some r ∧ SrcAt code (hi + 200) r.2.2 ∧ r.1.length ≤ 41 ∧ r.2.1.length ≤ 21 := fun x y l m q1 q2 q3 q4 => ⟨_, rfl, ⟨h.1, q1, q2⟩, q3, q4⟩
  refine bindE (pickA (code := code) (hi := hi + 100) 24 ⟨h.1, g1.2⟩ (by omega)) fun v2 g2 => ?_
  have g22 := g2.1.2.2
  refine condE (fun _ => ?_) fun _ => condE (fun _ => ?_) fun _ => condE (fun _ => ?_) fun _ => condE (fun _ => ?_) fun _ => condE (fun _ => ?_) fun _ => ?_
  · refine bindE (textA (code := code) (hi := hi + 102) _ (by simp) ⟨h.1, g2.1.2.1, by show v2.2.at_ ≤ _; omega⟩ (by omega)) fun v3 g3 => ?_
    have g33 := g3.1.2.2
    refine appE (by unfold LIM; simp; omega) ?_
    exact fin _ _ _ _ g3.1.2.1 (by omega) (by simp; omega) (by omega)
  · refine bindE (textA (code := code) (hi := hi + 102) _ (by simp) ⟨h.1, g2.1.2.1, by show v2.2.at_ ≤ _; omega⟩ (by omega)) fun v3 g3 => ?_
    have g33 := g3.1.2.2
    refine appE (by unfold LIM; simp; omega) ?_
    exact fin _ _ _ _ g3.1.2.1 (by omega) (by simp; omega) (by omega)
  · refine bindE (textA (code := code) (hi := hi + 102) _ (by simp) ⟨h.1, g2.1.2.1, by show v2.2.at_ ≤ _; omega⟩ (by omega)) fun v3 g3 => ?_
    have g33 := g3.1.2.2
    refine bindE (textA (code := code) (hi := hi + 104) _ (by simp) ⟨h.1, g3.1.2.1, by show v3.2.at_ ≤ _; omega⟩ (by omega)) fun v4 g4 => ?_
    have g44 := g4.1.2.2
    refine bindE (textA (code := code) (hi := hi + 106) _ (by simp) ⟨h.1, g4.1.2.1, by show v4.2.at_ ≤ _; omega⟩ (by omega)) fun v5 g5 => ?_
    have g55 := g5.1.2.2
    refine appE (by unfold LIM; simp; omega) ?_
    exact fin _ _ _ _ g5.1.2.1 (by omega) (by omega) (by simp; omega)
  · refine bindE (pickA (code := code) (hi := hi + 102) 2 ⟨h.1, g2.1.2.1, by show v2.2.at_ ≤ _; omega⟩ (by omega)) fun v3 g3 => ?_
    have g33 := g3.1.2.2
    have g34 := g3.2.2 (by omega)
    have g35 := g3.2.1
    have e : w64 (40 + v3.1) = ((40 + v3.1).toNat : Int) := by rw [w64_id (by omega) (by omega)]; omega
    rw [e]
    exact bent_l1 _ v3 _ _ N [] (by omega) (by simp; omega) fun l' hl' => fin _ _ _ _ g3.1.2.1 (by omega) hl' (by simp)
  · refine bent_l2 _ _ 6 0 N _ (by omega) (by omega) (by rfl) fun l72 hl72 => ?_
    refine bindE (pickA (code := code) (hi := hi + 102) 2 ⟨h.1, g2.1.2.1, by show v2.2.at_ ≤ _; omega⟩ (by omega)) fun v3 g3 => ?_
    have g33 := g3.1.2.2
    have g34 := g3.2.2 (by omega)
    have g35 := g3.2.1
    have e : w64 (20 + v3.1) = ((20 + v3.1).toNat : Int) := by rw [w64_id (by omega) (by omega)]; omega
    rw [e]
    exact bent_l3 _ l72 hl72 v3 _ _ N [] (by omega) (by simp; omega) fun l' hl' => fin _ _ _ _ g3.1.2.1 (by omega) (by omega) hl'
  · exact fin _ _ _ _ g2.1.2.1 (by omega) (by omega) (by omega)
end Go.Proofs.YtpodlgibcfbbiaaDoor
