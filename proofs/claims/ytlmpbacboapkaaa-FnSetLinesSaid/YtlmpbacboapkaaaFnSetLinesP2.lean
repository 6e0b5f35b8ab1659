/-
  Plain lemmas on these functions. No conditions but those that each states.
-/
import Derived.Test.YtlmpbacboapkaaaFnSetLinesP
namespace Go.Proofs.Ytlmpbacboapkaaa
set_option linter.unusedVariables false
set_option linter.unusedSimpArgs false
/-! Breaks, in plain numbers: P tells where a word begins. -/
def Pth (P : Nat → Int) (W : Int) (n : Nat) : Nat → List Nat → Prop
  | p, [] => p < n ∧ P n - P p - 1 ≤ W
  | p, b :: r => p < b ∧ b < n ∧ P b - P p - 1 ≤ W ∧ Pth P W n b r
def fb (P : Nat → Int) (W : Int) : Nat → Nat → Nat → List Nat
  | 0, _, _ => []
  | q + 1, s, i => if s < i ∧ P (i + 1) - P s - 1 > W then i :: fb P W q i (i + 1) else fb P W q s (i + 1)
def bd (P : Nat → Int) (W : Int) : Nat → List Nat → Int
  | _, [] => 0
  | p, b :: r => (W - (P b - P p - 1)) * (W - (P b - P p - 1)) + bd P W b r
theorem Pth.gt {P : Nat → Int} {W : Int} {n : Nat} : ∀ {bs : List Nat} {p : Nat}, Pth P W n p bs → ∀ b ∈ bs, p < b ∧ b < n
  | [], _, _, b, hb => by cases hb
  | c :: r, p, h, b, hb => by
    obtain ⟨h1, h2, _, h4⟩ := h
    rcases List.mem_cons.1 hb with rfl | hb
    · exact ⟨h1, h2⟩
    · have := Pth.gt h4 b hb; omega
theorem Pth.lt {P : Nat → Int} {W : Int} {n : Nat} : ∀ {bs : List Nat} {p : Nat}, Pth P W n p bs → p < n
  | [], _, h => h.1
  | _ :: _, _, h => by have := h.1; have := h.2.1; omega
theorem Pth.len {P : Nat → Int} {W : Int} {n : Nat} : ∀ {bs : List Nat} {p : Nat}, Pth P W n p bs → bs.length + p < n
  | [], _, h => by simpa using h.1
  | c :: r, p, h => by
    obtain ⟨h1, _, _, h4⟩ := h
    have := Pth.len h4
    simp only [List.length_cons]; omega
theorem Pth.pw {P : Nat → Int} {W : Int} {n : Nat} : ∀ {bs : List Nat} {p : Nat}, Pth P W n p bs → bs.Pairwise (· < ·)
  | [], _, _ => List.Pairwise.nil
  | c :: r, p, h => List.pairwise_cons.2 ⟨fun b hb => (Pth.gt h.2.2.2 b hb).1, Pth.pw h.2.2.2⟩
theorem fb_pth (P : Nat → Int) (W : Int) (n : Nat) (hone : ∀ i, i < n → P (i + 1) - P i - 1 ≤ W) : ∀ (q s i : Nat), i + q = n → s ≤ i → s < n → (s < i → P i - P s - 1 ≤ W) → Pth P W n s (fb P W q s i)
  | 0, s, i, h, h1, h2, h3 => by
    obtain rfl : i = n := by omega
    exact ⟨h2, h3 h2⟩
  | q + 1, s, i, h, h1, h2, h3 => by
    rw [fb]
    split
    · rename_i hc
      refine ⟨hc.1, by omega, h3 hc.1, fb_pth P W n hone q i (i + 1) (by omega) (by omega) (by omega) fun _ => hone i (by omega)⟩
    · rename_i hc
      refine fb_pth P W n hone q s (i + 1) (by omega) (by omega) h2 fun _ => ?_
      by_cases hs : s < i
      · have : ¬ P (i + 1) - P s - 1 > W := fun g => hc ⟨hs, g⟩
        omega
      · obtain rfl : s = i := by omega
        exact hone s h2
theorem fb_len (P : Nat → Int) (W : Int) : ∀ (q s i : Nat), (fb P W q s i).length ≤ q
  | 0, _, _ => Nat.le_refl _
  | q + 1, s, i => by
    rw [fb]
    split
    · have := fb_len P W q i (i + 1); simp only [List.length_cons]; omega
    · have := fb_len P W q s (i + 1); omega
/-- no breaks are fewer -/
theorem fb_opt (P : Nat → Int) (W : Int) (n : Nat) (hP : ∀ a b, a ≤ b → b ≤ n → P a ≤ P b) : ∀ (q s i p : Nat) (bs : List Nat), i + q = n → s ≤ i → p ≤ i → Pth P W n p bs → (∀ b ∈ bs, i ≤ b) → (fb P W q s i).length ≤ bs.length + (if p ≤ s then 0 else 1)
  | 0, _, _, _, _, _, _, _, _, _ => by simp [fb]
  | q + 1, s, i, p, bs, h, h1, h2, h3, h4 => by
    have hhead : (∃ r, bs = i :: r ∧ Pth P W n i r ∧ ∀ b ∈ r, i + 1 ≤ b) ∨ ∀ b ∈ bs, i + 1 ≤ b := by
      cases bs with
      | nil => exact .inr fun b hb => by cases hb
      | cons b r =>
        obtain ⟨g1, g2, g3, g4⟩ := h3
        have hb := h4 b List.mem_cons_self
        by_cases e : b = i
        · subst e
          exact .inl ⟨r, rfl, g4, fun x hx => (g4.gt x hx).1⟩
        · refine .inr fun x hx => ?_
          rcases List.mem_cons.1 hx with rfl | hx
          · omega
          · have := g4.gt x hx; omega
    rw [fb]
    split
    · rename_i hc
      rw [List.length_cons]
      by_cases hps : p ≤ s
      · rw [if_pos hps]
        have hps2 := hP p s hps (by omega)
        rcases hhead with ⟨r, rfl, g1, g2⟩ | g
        · have := fb_opt P W n hP q i (i + 1) i r (by omega) (by omega) (by omega) g1 g2
          rw [if_pos (Nat.le_refl _)] at this
          simp only [List.length_cons]; omega
        · exfalso
          cases bs with
          | nil =>
            have := h3.2
            have := hP (i + 1) n (by omega) (Nat.le_refl _)
            omega
          | cons b r =>
            have g5 := g b List.mem_cons_self
            have := h3.2.2.1
            have := hP (i + 1) b g5 (by have := h3.2.1; omega)
            omega
      · rw [if_neg hps]
        rcases hhead with ⟨r, rfl, g1, g2⟩ | g
        · have := fb_opt P W n hP q i (i + 1) i r (by omega) (by omega) (by omega) g1 g2
          rw [if_pos (Nat.le_refl _)] at this
          simp only [List.length_cons]; omega
        · have := fb_opt P W n hP q i (i + 1) p bs (by omega) (by omega) (by omega) h3 g
          rw [if_pos h2] at this
          omega
    · rename_i hc
      rcases hhead with ⟨r, rfl, g1, g2⟩ | g
      · have := fb_opt P W n hP q s (i + 1) i r (by omega) (by omega) (by omega) g1 g2
        simp only [List.length_cons]
        by_cases hps : p ≤ s
        · rw [if_pos hps]
          by_cases his : i ≤ s
          · rw [if_pos his] at this; omega
          · rw [if_neg his] at this; omega
        · rw [if_neg hps]
          split at this <;> omega
      · exact fb_opt P W n hP q s (i + 1) p bs (by omega) (by omega) (by omega) h3 g
theorem fb_start (P : Nat → Int) (W : Int) (n : Nat) : fb P W (n + 1) 0 0 = fb P W n 0 1 := by
  rw [fb, if_neg (fun h => by omega)]
def ins (i : Nat) : List Nat → List Nat
  | [] => [i]
  | b :: r => if i ≤ b then (if i < b then i :: b :: r else b :: r) else b :: ins i r
theorem ins_pth (P : Nat → Int) (W : Int) (n : Nat) (hP : ∀ a b, a ≤ b → b ≤ n → P a ≤ P b) (i : Nat) (hi : i < n) : ∀ (bs : List Nat) (p : Nat), p < i → Pth P W n p bs → Pth P W n p (ins i bs)
  | [], p, h, g => by
    have h1 := hP i n (by omega) (Nat.le_refl _)
    have h2 := hP p i (by omega) (by omega)
    have := g.2
    exact ⟨h, hi, by omega, hi, by omega⟩
  | b :: r, p, h, g => by
    obtain ⟨g1, g2, g3, g4⟩ := g
    rw [ins]
    split
    · split
      · rename_i hlt
        have h1 := hP i b (by omega) (by omega)
        have h2 := hP p i (by omega) (by omega)
        exact ⟨h, hi, by omega, hlt, g2, by omega, g4⟩
      · exact ⟨g1, g2, g3, g4⟩
    · exact ⟨g1, g2, g3, ins_pth P W n hP i hi r b (by omega) g4⟩
theorem bd_nn (P : Nat → Int) (W : Int) : ∀ (bs : List Nat) (p : Nat), 0 ≤ bd P W p bs
  | [], _ => Int.le_refl _
  | b :: r, p => by
    have h1 := bd_nn P W r b
    have h2 : 0 ≤ (W - (P b - P p - 1)) * (W - (P b - P p - 1)) := by
      rcases Int.le_total 0 (W - (P b - P p - 1)) with h | h
      · exact Int.mul_nonneg h h
      · exact Int.mul_nonneg_of_nonpos_of_nonpos h h
    simp only [bd]; omega
/-- the least badness from a word on -/
structure Cst (P : Nat → Int) (W : Int) (n : Nat) (c : Nat → Int) (nx : Nat → Nat) (i : Nat) : Prop where
  nn : 0 ≤ c i
  fit : P n - P i - 1 ≤ W → c i = 0 ∧ nx i = n
  no : ¬ P n - P i - 1 ≤ W → i < nx i ∧ nx i < n ∧ P (nx i) - P i - 1 ≤ W ∧ c i = (W - (P (nx i) - P i - 1)) * (W - (P (nx i) - P i - 1)) + c (nx i) ∧ ∀ k, i < k → k < n → P k - P i - 1 ≤ W → c i ≤ (W - (P k - P i - 1)) * (W - (P k - P i - 1)) + c k
theorem Cst.le {P : Nat → Int} {W : Int} {n : Nat} {c : Nat → Int} {nx : Nat → Nat} (h : ∀ i, i < n → Cst P W n c nx i) : ∀ (bs : List Nat) (p : Nat), Pth P W n p bs → c p ≤ bd P W p bs
  | [], p, g => by
    have := ((h p g.1).fit g.2).1
    simp only [bd]; omega
  | b :: r, p, g => by
    obtain ⟨g1, g2, g3, g4⟩ := g
    have ih := Cst.le h r b g4
    have hp := h p (by omega)
    simp only [bd]
    by_cases hc : P n - P p - 1 ≤ W
    · have h1 := (hp.fit hc).1
      have := bd_nn P W (b :: r) p
      simp only [bd] at this
      omega
    · have := (hp.no hc).2.2.2.2 b g1 g2 g3
      omega
end Go.Proofs.Ytlmpbacboapkaaa
