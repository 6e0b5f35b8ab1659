/-
  Plain lemmas on these functions. No conditions but those that each states.
-/
import Derived.Test.YtigjflandggihaaFnExactPossibleDefectsP5
namespace Go.Proofs.Ytigjflandggihaa
set_option linter.unusedVariables false
set_option linter.unusedSimpArgs false
theorem w_markInt64S_l1_eq : ∀ (n i N : Nat) (l : List Int) (k : Int), l.length ≤ LIM → i + n = l.length → n < N → 0 ≤ k → k + n ≤ 4611686018427387904 →
    ∃ l', l'.length = l.length ∧ l'.take i = l.take i ∧ (∀ K, w_markInt64S_l1 K N l k (i : Int) = K l' (k + n)) ∧ ∀ K, w_heldInt64S_l1 K l' N k (i : Int) = K (k + n) := by
  intro n
  induction n with
  | zero =>
    intro i N l k ha h1 h3 h4 h5
    obtain ⟨N, rfl⟩ := pos_fuel h3
    have hi : ¬ ((i : Int) < (l.length : Int)) := by omega
    exact ⟨l, rfl, rfl, fun K => by simp [w_markInt64S_l1, hi], fun K => by simp [w_heldInt64S_l1, hi]⟩
  | succ n ih =>
    intro i N l k ha h1 h3 h4 h5
    obtain ⟨N, rfl⟩ := pos_fuel h3
    have hi : (i : Int) < (l.length : Int) := by omega
    have hn : i < l.length := by omega
    have la := ha
    unfold LIM at la
    have e1 : w64 (k + 1) = k + 1 := w64_id (by omega) (by omega)
    obtain ⟨l', h6, h7, h8, h9⟩ := ih (i + 1) N (l.set i k) (k + 1) (by simpa using ha) (by simp; omega) (by omega) (by omega) (by omega)
    have hn' : i < l'.length := by rw [h6]; simpa using hn
    have hs : l'[i] = k := by
      have : (l'.take (i + 1))[i]'(by simp; omega) = ((l.set i k).take (i + 1))[i]'(by simp; omega) := by simp only [h7]
      simpa using this
    refine ⟨l', by simpa using h6, ?_, fun K => ?_, fun K => ?_⟩
    · have := congrArg (List.take i) h7
      simpa [List.take_take, List.take_set_of_le (Nat.le_refl i)] using this
    · simp only [w_markInt64S_l1, hi, decide_true, cond_true, idx_lt l i hn, Option.bind_some, e1, w64_nat i (by omega), Int.toNat_natCast, h8]
      congr 1; omega
    · have hi' : (i : Int) < (l'.length : Int) := by omega
      simp only [w_heldInt64S_l1, hi', decide_true, cond_true, idx_lt l' i hn', hs, Option.bind_some, bne_self_eq_false, cond_false, e1, w64_nat i (by omega), h9]
      congr 1; omega
theorem w_markInt64S_eq {N : Nat} (a : List Int) (ha : a.length ≤ LIM) (hN : a.length < N) : ∃ l', w_markInt64S N a 1 = some (1 + (a.length : Int), l') ∧ w_heldInt64S N l' 1 = some (1 + (a.length : Int)) := by
  have la := ha
  unfold LIM at la
  obtain ⟨l', h6, h7, h8, h9⟩ := w_markInt64S_l1_eq a.length 0 N a 1 ha (by omega) hN (by omega) (by omega)
  exact ⟨l', by unfold w_markInt64S; exact h8 _, by unfold w_heldInt64S; exact h9 _⟩
theorem w_markText_l1_eq : ∀ (n : Nat) (N : Nat) (k : Int) (out : Str), 0 ≤ k → k < (10 : Int) ^ n → k ≤ 9223372036854775807 → n < N → out.length + n ≤ 1000 →
    ∃ r : Str, r.length ≤ out.length + n ∧ ∀ K, w_markText_l1 K N k out = K r := by
  intro n
  induction n with
  | zero =>
    intro N k out h0 h1 h2 h3 h4
    obtain ⟨N, rfl⟩ := pos_fuel h3
    have : ¬ k > 0 := by simp at h1; omega
    exact ⟨out, by omega, fun K => by simp only [w_markText_l1, this, decide_false, cond_false]⟩
  | succ n ih =>
    intro N k out h0 h1 h2 h3 h4
    obtain ⟨N, rfl⟩ := pos_fuel h3
    by_cases hk : k > 0
    · have e4 : Int.tdiv k 10 = k / 10 := Int.tdiv_eq_ediv_of_nonneg (by omega)
      have e5 : w64 (k / 10) = k / 10 := w64_id (by omega) (by omega)
      have h6 : k / 10 < 10 ^ n := by rw [Int.pow_succ] at h1; omega
      obtain ⟨r, h7, h8⟩ := ih N (k / 10) (UInt8.ofInt (w64 (48 + (Int.tmod k 10))) :: out) (by omega) h6 (by omega) (by omega) (by simp; omega)
      refine ⟨r, by simp at h7; omega, fun K => ?_⟩
      simp only [w_markText_l1, hk, decide_true, cond_true]
      rw [cat_some _ _ (by simp; unfold LIM; omega)]
      simp only [Option.bind_some, e4, e5, List.singleton_append, h8]
    · exact ⟨out, by omega, fun K => by simp only [w_markText_l1, hk, decide_false, cond_false]⟩
theorem w_markText_eq (N : Nat) (k : Int) (hN : 30 < N) (h1 : k ≤ 9223372036854775807) : ∃ s, w_markText N k = some s := by
  unfold w_markText
  by_cases h : k ≤ 0
  · exact ⟨[109, 48], by simp only [h, decide_true, cond_true]⟩
  · obtain ⟨r, h2, h3⟩ := w_markText_l1_eq 19 N k [] (by omega) (by omega) h1 (by omega) (by simp)
    refine ⟨[109] ++ r, ?_⟩
    simp only [h, decide_false, cond_false, withK_eq, h3]
    rw [cat_some _ _ (by simp at h2 ⊢; unfold LIM; omega)]
    rfl

theorem w_markDefectS_l1_eq : ∀ (n i N : Nat) (l : List Defect) (k : Int), l.length ≤ LIM → i + n = l.length → n + 40 < N → 0 ≤ k → k + 3 * n ≤ 4611686018427387904 →
    ∃ l', ∀ K, w_markDefectS_l1 K N l k (i : Int) = K l' (k + 3 * n) := by
  intro n
  induction n with
  | zero =>
    intro i N l k ha h1 h3 h4 h5
    obtain ⟨N, rfl⟩ := pos_fuel (by omega : 0 < N)
    have hi : ¬ ((i : Int) < (l.length : Int)) := by omega
    exact ⟨l, fun K => by simp [w_markDefectS_l1, hi]⟩
  | succ n ih =>
    intro i N l k ha h1 h3 h4 h5
    obtain ⟨N, rfl⟩ := pos_fuel (by omega : 0 < N)
    have hi : (i : Int) < (l.length : Int) := by omega
    have hn : i < l.length := by omega
    have la := ha
    unfold LIM at la
    have e1 : w64 (k + 1) = k + 1 := w64_id (by omega) (by omega)
    have e2 : w64 (k + 1 + 1) = k + 1 + 1 := w64_id (by omega) (by omega)
    have e3 : w64 (k + 1 + 1 + 1) = k + 1 + 1 + 1 := w64_id (by omega) (by omega)
    obtain ⟨s, hs⟩ := w_markText_eq N k (by omega) (by omega)
    obtain ⟨s2, hs2⟩ := w_markText_eq N (k + 1 + 1) (by omega) (by omega)
    obtain ⟨l', h8⟩ := ih (i + 1) N (l.set i ⟨s, k + 1, s2⟩) (k + 1 + 1 + 1) (by simpa using ha) (by simp; omega) (by omega) (by omega) (by omega)
    refine ⟨l', fun K => ?_⟩
    simp only [w_markDefectS_l1, hi, decide_true, cond_true, hs, hs2, idx_lt l i hn, Option.bind_some, e1, e2, e3, w64_nat i (by omega), Int.toNat_natCast, List.set_set, idx_set _ i _ hn, h8]
    congr 1; omega
theorem w_markDefectS_eq {N : Nat} (a : List Defect) (ha : a.length ≤ LIM) (hN : a.length + 40 < N) : ∃ l', w_markDefectS N a 1 = some (1 + 3 * (a.length : Int), l') := by
  have la := ha
  unfold LIM at la
  obtain ⟨l', h8⟩ := w_markDefectS_l1_eq a.length 0 N a 1 ha (by omega) hN (by omega) (by omega)
  exact ⟨l', by unfold w_markDefectS; exact h8 _⟩
theorem Possible_eq (N : Nat) (l : List Defect) (p : List Int) (s : Str) (ha : l.length ≤ LIM) (hp : p.length ≤ LIM) (hs : ∀ d ∈ l, d.signs.length ≤ 1048576) (hl : s.length ≤ LIM) (hN : p.length + s.length + 3 * l.length + 1048800 < N) :
    ∃ r : List Int × Int, r.1.length ≤ l.length ∧ s_PossibleDefects N l p s = some r ∧ i_PossibleDefects N l p s = some r := by
  obtain ⟨c, h1, h2⟩ := CodeD_eq l p s ha hp hs hl
  obtain ⟨h3, h4⟩ := h2 N (by omega)
  by_cases hc : c = 0
  · obtain ⟨r, h5, h6, h7⟩ := Fit_eq l p s (h1 hc)
    obtain ⟨h8, h9⟩ := h7 N (by omega)
    subst hc
    exact ⟨(r, 0), h5, by simp [s_PossibleDefects, h3, h8], by simp [i_PossibleDefects, h4, h9]⟩
  · have e : (c != 0) = true := by simpa using hc
    exact ⟨([], c), by simp, by simp [s_PossibleDefects, h3, e], by simp [i_PossibleDefects, h4, e]⟩
theorem law_FnExactPossibleDefects (a : List Defect) (b : List Int) (s : Str) (ha : wfL wfDefect a) (_ : wfL wfI64 b) (_ : wfStr s) : ∃ N, w_FnExactPossibleDefects N a b s = some true := by
  obtain ⟨N, hN⟩ : ∃ N, N = 8000000 := ⟨_, rfl⟩
  refine ⟨N, ?_⟩
  obtain ⟨r1, h1, h2⟩ := w_szDefectS_eq (N := N) a 1048576 (by omega) (by omega) (by omega) ha.1 (fun x hx => ⟨(ha.2 x hx).1, (ha.2 x hx).2.2⟩)
  unfold w_FnExactPossibleDefects
  rw [h1]
  by_cases hb1 : (b.length : Int) > 1048576
  · simp [hb1]
  by_cases hb2 : (s.length : Int) > 1048576
  · simp [hb2]
  rcases h2 with h2 | ⟨h2, h3, la, hs⟩
  · simp [h2]
  have h2' : ¬ r1 < 0 := by omega
  have la' : a.length ≤ LIM := by unfold LIM; omega
  have lb' : b.length ≤ LIM := by unfold LIM; omega
  obtain ⟨p, lp, h7, h8⟩ := Possible_eq N a b s la' lb' hs (by unfold LIM; omega) (by omega)
  have lp' : p.1.length ≤ LIM := by unfold LIM; omega
  obtain ⟨m1, h9⟩ := w_markDefectS_eq (N := N) a la' (by omega)
  obtain ⟨m2, _, _, h10, _⟩ := w_markInt64S_l1_eq b.length 0 N b (1 + 3 * (a.length : Int)) lb' (by omega) (by omega) (by omega) (by omega)
  have h10 : w_markInt64S N b (1 + 3 * (a.length : Int)) = some (1 + 3 * (a.length : Int) + (b.length : Int), m2) := by unfold w_markInt64S; exact h10 _
  obtain ⟨m3, h11, h12⟩ := w_markInt64S_eq (N := N) p.1 lp' (by omega)
  have f1 : ¬ (1 + 3 * (a.length : Int) + (b.length : Int) < 0) := by omega
  have f2 : ¬ (1 + (p.1.length : Int) < 0) := by omega
  simp only [Option.bind_some, h2', f1, f2, hb1, hb2, decide_false, cond_false, w_toDefectS_eq a la' (by omega : a.length < N), w_toInt64S_eq b lb' (by omega : b.length < N), h7, h8, h9, h10, h11, h12, w_eqDefectS_eq a la' (by omega : a.length < N), w_eqInt64S_eq b lb' (by omega : b.length < N), w_eqInt64S_eq p.1 lp' (by omega : p.1.length < N), bne_self_eq_false, Bool.not_true, orO_some, orO_false, Bool.or_false]
end Go.Proofs.Ytigjflandggihaa
