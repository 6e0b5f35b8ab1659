/-
  Plain lemmas on these functions. No conditions but those that each states.
-/
import Derived.Test.YtigjflandggihaaFnExactPossibleDefectsP4
namespace Go.Proofs.Ytigjflandggihaa
set_option linter.unusedVariables false
set_option linter.unusedSimpArgs false
def oka (c : UInt8) : Bool := c == 48 || (c == 49 || c == 63)
theorem s_l05Index_eq (N : Nat) (hN : 10 < N) (c : UInt8) : ∃ r : Int, s_l05Index N [48, 49, 63] c = some r ∧ decide (r < 0) = !(oka c) := by
  obtain ⟨N, rfl⟩ := pos_fuel (by omega : 0 < N)
  obtain ⟨N, rfl⟩ := pos_fuel (by omega : 0 < N)
  obtain ⟨N, rfl⟩ := pos_fuel (by omega : 0 < N)
  obtain ⟨N, rfl⟩ := pos_fuel (by omega : 0 < N)
  have e0 : idx ([48, 49, 63] : List UInt8) 0 = some 48 := rfl
  have e1 : idx ([48, 49, 63] : List UInt8) 1 = some 49 := rfl
  have e2 : idx ([48, 49, 63] : List UInt8) 2 = some 63 := rfl
  have w0 : w64 (0 + 1) = 1 := rfl
  have w1 : w64 (1 + 1) = 2 := rfl
  have w2 : w64 (2 + 1) = 3 := rfl
  have l3 : ((([48, 49, 63] : List UInt8).length : Nat) : Int) = 3 := rfl
  have d0 : decide ((0 : Int) < 3) = true := rfl
  have d1 : decide ((1 : Int) < 3) = true := rfl
  have d2 : decide ((2 : Int) < 3) = true := rfl
  have d3 : decide ((3 : Int) < 3) = false := rfl
  simp only [s_l05Index, withK_eq, s_l05Index_l1, l3, d0, d1, d2, d3, e0, e1, e2, w0, w1, w2, cond_true, cond_false, Option.bind_some, oka]
  have s0 : ((48 : UInt8) == c) = (c == 48) := BEq.comm
  have s1 : ((49 : UInt8) == c) = (c == 49) := BEq.comm
  have s2 : ((63 : UInt8) == c) = (c == 63) := BEq.comm
  rw [s0, s1, s2]
  cases (c == 48)
  · cases (c == 49)
    · cases (c == 63)
      · exact ⟨-1, rfl, rfl⟩
      · exact ⟨2, rfl, rfl⟩
    · exact ⟨1, rfl, rfl⟩
  · exact ⟨0, rfl, rfl⟩
theorem Answers_l1_eq (s : Str) (ha : s.length ≤ LIM) : ∀ (n i : Nat), i + n = s.length → ∃ t : Bool, ∀ N, n + 20 < N → (∀ K, s_l23Answers_l1 K s N (i : Int) = bif t then K else some false) ∧ ∀ K, i_areAnswers_l1 K s N (i : Int) = bif t then K else some false := by
  intro n
  induction n with
  | zero =>
    intro i h1
    have hi : ¬ ((i : Int) < (s.length : Int)) := by omega
    refine ⟨true, fun N hN => ?_⟩
    obtain ⟨N, rfl⟩ := pos_fuel (by omega : 0 < N)
    exact ⟨fun K => by simp [s_l23Answers_l1, hi], fun K => by simp [i_areAnswers_l1, hi]⟩
  | succ n ih =>
    intro i h1
    have hi : (i : Int) < (s.length : Int) := by omega
    have hn : i < s.length := by omega
    have la := ha
    unfold LIM at la
    obtain ⟨t, h4⟩ := ih (i + 1) (by omega)
    refine ⟨oka s[i] && t, fun N hN => ?_⟩
    obtain ⟨N, rfl⟩ := pos_fuel (by omega : 0 < N)
    obtain ⟨h5, h6⟩ := h4 N (by omega)
    obtain ⟨r, h7, h8⟩ := s_l05Index_eq N (by omega) s[i]
    constructor
    · intro K
      simp only [s_l23Answers_l1, hi, decide_true, cond_true, idx_lt s i hn, Option.bind_some, h7, h8, w64_nat i (by omega), h5]
      cases oka s[i] <;> rfl
    · intro K
      simp only [i_areAnswers_l1, hi, decide_true, cond_true, idx_lt s i hn, Option.bind_some, andO_some, w64_nat i (by omega), h6, oka, bne]
      cases (s[i] == 48) <;> cases (s[i] == 49) <;> cases (s[i] == 63) <;> rfl
def CDf (l : List Defect) (p : List Int) (s : Str) : Prop := VDf l p ∧ s.length = p.length
theorem CodeD_eq (l : List Defect) (p : List Int) (s : Str) (ha : l.length ≤ LIM) (hp : p.length ≤ LIM) (hs : ∀ d ∈ l, d.signs.length ≤ 1048576) (hl : s.length ≤ LIM) :
    ∃ c : Int, (c = 0 → CDf l p s) ∧ ∀ N, p.length + s.length + 2 * l.length + 1048800 < N → s_l23Code N l p s = some c ∧ i_answersCode N l p s = some c := by
  obtain ⟨t, h1, h2⟩ := ValidDefects_eq l p ha hp hs
  obtain ⟨u, h3⟩ := Answers_l1_eq s hl s.length 0 (by omega)
  refine ⟨bif !t then 1 else bif !(u && (s.length : Int) == (p.length : Int)) then 2 else 0, fun h => ?_, fun N hN => ?_⟩
  · cases t
    · simp at h
    · cases e : (u && (s.length : Int) == (p.length : Int))
      · rw [e] at h; simp at h
      · simp only [Bool.and_eq_true, beq_iff_eq] at e
        exact ⟨h1 rfl, by omega⟩
  · obtain ⟨h4, h5⟩ := h2 N (by omega)
    obtain ⟨h6, h7⟩ := h3 N (by omega)
    rw [show ((0 : Nat) : Int) = 0 from rfl] at h6 h7
    simp only [s_l23Code, i_answersCode, h4, h5, Option.bind_some, s_l23Answers, i_areAnswers, withK_eq, h6, h7]
    cases t <;> cases u <;> cases ((s.length : Int) == (p.length : Int)) <;> exact ⟨rfl, rfl⟩
theorem Fit_l2_eq (l : List Defect) (s : Str) (i : Nat) (hi : i < l.length) (hs : s.length = (l[i]).signs.length) (ha : s.length ≤ LIM) : ∀ (n j : Nat) (f : Bool), j + n = s.length → ∃ r : Bool, ∀ N, n < N →
    (∀ K, s_l23Fit_l2 K l s (i : Int) N f (j : Int) = K r) ∧ ∀ K, i_fitting_l2 K s l[i] N f (j : Int) = K r := by
  intro n
  induction n with
  | zero =>
    intro j f h1
    have hj : ¬ ((j : Int) < (s.length : Int)) := by omega
    refine ⟨f, fun N hN => ?_⟩
    obtain ⟨N, rfl⟩ := pos_fuel (by omega : 0 < N)
    exact ⟨fun K => by simp [s_l23Fit_l2, hj], fun K => by simp [i_fitting_l2, hj]⟩
  | succ n ih =>
    intro j f h1
    have hj : (j : Int) < (s.length : Int) := by omega
    have hn : j < s.length := by omega
    have la := ha
    unfold LIM at la
    obtain ⟨r, h4⟩ := ih (j + 1) (f && (s[j] == 63 || s[j] == (l[i]).signs[j]'(by omega))) (by omega)
    refine ⟨r, fun N hN => ?_⟩
    obtain ⟨N, rfl⟩ := pos_fuel (by omega : 0 < N)
    obtain ⟨h5, h6⟩ := h4 N (by omega)
    constructor
    · intro K
      simp only [s_l23Fit_l2, hj, decide_true, cond_true, idx_lt s j hn, idx_lt l i hi, idx_lt (l[i]).signs j (by omega), Option.bind_some, orO_some, andO_some, w64_nat j (by omega), h5]
    · intro K
      simp only [i_fitting_l2, hj, decide_true, cond_true, idx_lt s j hn, idx_lt (l[i]).signs j (by omega), Option.bind_some, orO_some, andO_some, w64_nat j (by omega), h6]
theorem Fit_l1_eq (l : List Defect) (p : List Int) (s : Str) (hc : CDf l p s) : ∀ (n i : Nat) (o : List Int), i + n = l.length → o.length ≤ i → (∀ x ∈ o, 0 ≤ x ∧ x < (i : Int)) →
    ∃ r : List Int, r.length ≤ l.length ∧ (∀ x ∈ r, 0 ≤ x ∧ x < (l.length : Int)) ∧ ∀ N, n + 10 < N → (∀ K, s_l23Fit_l1 K l s N o (i : Int) = K r) ∧ ∀ K, i_fitting_l1 K l s N o (i : Int) = K r := by
  obtain ⟨⟨h10, h6, hsig⟩, hsl⟩ := hc
  intro n
  induction n with
  | zero =>
    intro i o h1 h2 h3
    have hi : ¬ ((i : Int) < (l.length : Int)) := by omega
    refine ⟨o, by omega, fun x hx => ⟨(h3 x hx).1, by have := (h3 x hx).2; omega⟩, fun N hN => ?_⟩
    obtain ⟨N, rfl⟩ := pos_fuel (by omega : 0 < N)
    exact ⟨fun K => by simp [s_l23Fit_l1, hi], fun K => by simp [i_fitting_l1, hi]⟩
  | succ n ih =>
    intro i o h1 h2 h3
    have hi : (i : Int) < (l.length : Int) := by omega
    have hn : i < l.length := by omega
    obtain ⟨f, hf⟩ := Fit_l2_eq l s i hn (by rw [hsig _ (List.getElem_mem hn), hsl]) (by unfold LIM; omega) s.length 0 true (by omega)
    cases f
    · obtain ⟨r, h4, h5, h7⟩ := ih (i + 1) o (by omega) (by omega) (fun x hx => ⟨(h3 x hx).1, by have := (h3 x hx).2; omega⟩)
      refine ⟨r, h4, h5, fun N hN => ?_⟩
      obtain ⟨N, rfl⟩ := pos_fuel (by omega : 0 < N)
      obtain ⟨h8, h9⟩ := h7 N (by omega)
      obtain ⟨h11, h12⟩ := hf N (by omega)
      rw [show ((0 : Nat) : Int) = 0 from rfl] at h11 h12
      constructor
      · intro K
        simp only [s_l23Fit_l1, hi, decide_true, cond_true, withK_eq, h11, cond_false, w64_nat i (by omega), h8]
      · intro K
        simp only [i_fitting_l1, hi, decide_true, cond_true, withK_eq, idx_lt l i hn, Option.bind_some, h12, cond_false, w64_nat i (by omega), h9]
    · obtain ⟨r, h4, h5, h7⟩ := ih (i + 1) (o ++ [(i : Int)]) (by omega) (by simp; omega) (fun x hx => by
        rcases List.mem_append.1 hx with h | h
        · have := h3 x h; omega
        · simp at h; omega)
      refine ⟨r, h4, h5, fun N hN => ?_⟩
      obtain ⟨N, rfl⟩ := pos_fuel (by omega : 0 < N)
      obtain ⟨h8, h9⟩ := h7 N (by omega)
      obtain ⟨h11, h12⟩ := hf N (by omega)
      rw [show ((0 : Nat) : Int) = 0 from rfl] at h11 h12
      have ea : app o [(i : Int)] = some (o ++ [(i : Int)]) := app_some _ _ (by simp; unfold LIM; omega)
      constructor
      · intro K
        simp only [s_l23Fit_l1, hi, decide_true, cond_true, withK_eq, h11, ea, Option.bind_some, w64_nat i (by omega), h8]
      · intro K
        simp only [i_fitting_l1, hi, decide_true, cond_true, withK_eq, idx_lt l i hn, Option.bind_some, h12, ea, w64_nat i (by omega), h9]
theorem Fit_eq (l : List Defect) (p : List Int) (s : Str) (hc : CDf l p s) : ∃ r : List Int, r.length ≤ l.length ∧ (∀ x ∈ r, 0 ≤ x ∧ x < (l.length : Int)) ∧ ∀ N, 30 < N → s_l23Fit N l s = some r ∧ i_fitting N l s = some r := by
  have h10 := hc.1.1
  obtain ⟨r, h1, h2, h3⟩ := Fit_l1_eq l p s hc l.length 0 [] (by omega) (by simp) (fun x hx => by simp at hx)
  exact ⟨r, h1, h2, fun N hN => ⟨(h3 N (by omega)).1 _, (h3 N (by omega)).2 _⟩⟩
end Go.Proofs.Ytigjflandggihaa
