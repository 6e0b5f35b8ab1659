/-
  Plain lemmas on these functions. No conditions but those that each states.
-/
import Derived.Test.YtpdcifgphocllaaFnRecordsP7
namespace Go.Proofs.Ytpdcifgphocllaa
set_option linter.unusedVariables false
set_option linter.unusedSimpArgs false
/-! What both sides compute of tests. -/
def gT (l : List Trial) (i : Int) : Trial := (idx l i).getD ⟨0, 0, 1⟩
theorem gT_at (l : List Trial) (i : Nat) (h : i < l.length) : gT l (i : Int) = l[i] := by unfold gT; rw [idx_lt l i h]; rfl
theorem gT_GT {l : List Trial} (hl : ∀ x ∈ l, GT x) (i : Int) : GT (gT l i) := by
  unfold gT
  cases h : idx l i with
  | none => unfold GT; simp
  | some x => exact hl x (List.mem_of_getElem? (idx_get h))
/-- all is well -/
structure OKL (l : List Trial) (p : Int) : Prop where
  v : ∀ x ∈ l, GT x
  n : l.length ≤ 40
  p : 0 ≤ p ∧ p ≤ 50
def lt_ (l : List Trial) (p : Int) (i j : Int) : Bool := sl p (gT l i) (gT l j)
section
variable {l : List Trial} {p : Int} (H : OKL l p)
include H
theorem lt_neg (x y z : Int) (h1 : lt_ l p x y = true) (h2 : lt_ l p z y = false) : lt_ l p x z = true :=
  sl_neg (gT_GT H.v x).2.2.2.2.1 (gT_GT H.v y).2.2.2.2.1 (gT_GT H.v z).2.2.2.2.1 h1 h2
omit H in
theorem lt_asym (x y : Int) (h : lt_ l p x y = true) : lt_ l p y x = false := sl_asym _ _ _ h
omit H in
theorem lt_irr (x : Int) : lt_ l p x x = false := sl_irr _ _
theorem at_ok (i j : Nat) (hi : i < l.length) (hj : j < l.length) : i_Trial_slower l[i] l[j] p = some (lt_ l p i j) ∧ s_l20Less l[i] l[j] p = some (lt_ l p i j) ∧ w_f6faster l[i] l[j] p = some (lt_ l p j i) := by
  unfold lt_
  rw [gT_at l i hi, gT_at l j hj]
  exact sl_ok H.p (H.v _ (List.getElem_mem hi)) (H.v _ (List.getElem_mem hj))
end
/-- the fastest one -/
def fa (l : List Trial) (p : Int) : Nat → Nat → Nat → Nat
  | 0, _, b => b
  | q + 1, i, b => fa l p q (i + 1) (bif lt_ l p b i then i else b)
theorem fa_lt (l : List Trial) (p : Int) : ∀ (q i b : Nat), i + q = l.length → b < l.length → fa l p q i b < l.length
  | 0, _, _, _, hb => hb
  | q + 1, i, b, h, hb => by
    simp only [fa]
    refine fa_lt l p q (i + 1) _ (by omega) ?_
    cases lt_ l p b i
    · exact hb
    · show i < _; omega
section
variable {l : List Trial} {p : Int} (H : OKL l p)
include H
theorem fa_max : ∀ (q i b : Nat), i + q = l.length → (∀ j : Nat, j < i → lt_ l p b j = false) → ∀ j : Nat, j < l.length → lt_ l p (fa l p q i b) j = false
  | 0, i, b, h, hb, j, hj => hb j (by omega)
  | q + 1, i, b, h, hb, j, hj => by
    simp only [fa]
    refine fa_max q (i + 1) _ (by omega) ?_ j hj
    intro j hj
    cases hc : lt_ l p b i with
    | false =>
      rw [cond_false]
      rcases Nat.lt_succ_iff_lt_or_eq.1 hj with h | rfl
      · exact hb j h
      · exact hc
    | true =>
      rw [cond_true]
      rcases Nat.lt_succ_iff_lt_or_eq.1 hj with h | rfl
      · cases hd : lt_ l p i j with
        | false => rfl
        | true =>
          have := lt_asym _ _ (lt_neg H _ _ _ hd (hb j h))
          rw [hc] at this; cases this
      · exact lt_irr _
theorem fast_l1 (kj : Int → Option (Int × Int)) : ∀ (q i N b : Nat), i + q = l.length → q < N → b < l.length → i_FastestTrial_l1 kj l p N (b : Int) (i : Int) = kj (fa l p q i b : Nat) ∧ s_FastestTrial_l1 kj l p N (b : Int) (i : Int) = kj (fa l p q i b : Nat) := by
  intro q
  induction q with
  | zero =>
    intro i N b h1 h2 hb
    obtain ⟨N, rfl⟩ := pos_fuel h2
    have hz : ¬ (i : Int) < (l.length : Int) := by omega
    simp only [i_FastestTrial_l1, s_FastestTrial_l1, hz, decide_false, cond_false, fa, and_self]
  | succ q ih =>
    intro i N b h1 h2 hb
    obtain ⟨N, rfl⟩ := pos_fuel h2
    have hi : i < l.length := by omega
    have hz : (i : Int) < (l.length : Int) := by omega
    have hn := H.n
    obtain ⟨a1, a2, _⟩ := at_ok H b i hb hi
    simp only [i_FastestTrial_l1, s_FastestTrial_l1, hz, decide_true, cond_true, idx_lt l i hi, idx_lt l b hb, Option.bind_some, a1, a2, w64_nat i (by omega), withK_n, fa]
    cases lt_ l p b i
    · exact ih (i + 1) N b (by omega) (by omega) hb
    · exact ih (i + 1) N i (by omega) (by omega) hi
end
/-- the records behind the first one -/
def rc (l : List Trial) (p : Int) : Nat → Nat → Nat → List Int
  | 0, _, _ => []
  | q + 1, i, b => bif lt_ l p b i then (i : Int) :: rc l p q (i + 1) i else rc l p q (i + 1) b
theorem rc_len (l : List Trial) (p : Int) : ∀ (q i b : Nat), (rc l p q i b).length ≤ q
  | 0, _, _ => Nat.le_refl _
  | q + 1, i, b => by
    simp only [rc]
    cases lt_ l p b i
    · exact Nat.le_succ_of_le (rc_len l p q (i + 1) b)
    · simp only [cond_true, List.length_cons]; have := rc_len l p q (i + 1) i; omega
theorem rc_last (l : List Trial) (p : Int) : ∀ (q i b : Nat), ((b : Int) :: rc l p q i b)[(rc l p q i b).length]? = some ((fa l p q i b : Nat) : Int)
  | 0, _, b => rfl
  | q + 1, i, b => by
    simp only [rc, fa]
    cases lt_ l p b i
    · exact rc_last l p q (i + 1) b
    · have := rc_last l p q (i + 1) i
      simp only [cond_true, List.length_cons, List.getElem?_cons_succ]
      exact this
section
variable {l : List Trial} {p : Int} (H : OKL l p)
include H
theorem rec_l1 (kj : List Int → Option (List Int × Int)) : ∀ (q i N b : Nat) (o : List Int), i + q = l.length → q < N → b < l.length → 0 < i → o.length ≤ i → i_RecordsOf_l1 kj l p N (o ++ [(b : Int)]) (b : Int) (i : Int) = kj ((o ++ [(b : Int)]) ++ rc l p q i b) ∧ s_RecordsOf_l1 kj l p N (o ++ [(b : Int)]) (i : Int) = kj ((o ++ [(b : Int)]) ++ rc l p q i b) := by
  intro q
  induction q with
  | zero =>
    intro i N b o h1 h2 hb h0 ho
    obtain ⟨N, rfl⟩ := pos_fuel h2
    have hz : ¬ (i : Int) < (l.length : Int) := by omega
    simp only [i_RecordsOf_l1, s_RecordsOf_l1, hz, decide_false, cond_false, rc, List.append_nil, and_self]
  | succ q ih =>
    intro i N b o h1 h2 hb h0 ho
    obtain ⟨N, rfl⟩ := pos_fuel h2
    have hi : i < l.length := by omega
    have hz : (i : Int) < (l.length : Int) := by omega
    have hn := H.n
    have z0 : ((i : Int) == 0) = false := by rw [beq_eq_false_iff_ne]; omega
    have ol : (o ++ [(b : Int)]).length = o.length + 1 := by simp
    have z1 : (((o ++ [(b : Int)]).length : Int) == 0) = false := by rw [beq_eq_false_iff_ne, ol]; omega
    have z2 : idx (o ++ [(b : Int)]) (w64 (((o ++ [(b : Int)]).length : Int) - 1)) = some (b : Int) := by
      rw [ol, w64_id (by omega) (by omega), show ((o.length + 1 : Nat) : Int) - 1 = (o.length : Int) by omega, idx_nat]
      simp
    obtain ⟨a1, a2, _⟩ := at_ok H b i hb hi
    simp only [i_RecordsOf_l1, s_RecordsOf_l1, hz, decide_true, cond_true, z0, z1, z2, orO_false, idx_lt l i hi, idx_lt l b hb, Option.bind_some, a1, a2, w64_nat i (by omega), withK_n, rc]
    cases lt_ l p b i
    · exact ih (i + 1) N b o (by omega) (by omega) hb (by omega) (by omega)
    · rw [cond_true, cond_true, cond_true, app_some _ _ (by rw [ol]; simp; unfold LIM; omega), Option.bind_some]
      have := ih (i + 1) N i (o ++ [(b : Int)]) (by omega) (by omega) hi (by omega) (by rw [ol]; omega)
      simpa using this
end
/-- a run that rises -/
def Ris (l : List Trial) (p : Int) (a b : Nat) : Prop := ∀ j : Nat, a ≤ j → j + 1 < b → lt_ l p j ((j + 1 : Nat) : Int) = true
def lr (l : List Trial) (p : Int) : Nat → Nat → Nat → Nat → Nat → Nat × Nat
  | 0, _, f, m, _ => (f, m)
  | q + 1, i, f, m, b =>
    bif lt_ l p ((i - 1 : Nat) : Int) i then (bif decide (i - b + 1 > m) then lr l p q (i + 1) b (i - b + 1) b else lr l p q (i + 1) f m b)
    else (bif decide (1 > m) then lr l p q (i + 1) i 1 i else lr l p q (i + 1) f m i)
theorem lr_ok (l : List Trial) (p : Int) : ∀ (q i f m b : Nat), i + q = l.length → 0 < i → b < i → f + m ≤ i → 0 < m → Ris l p b i → Ris l p f (f + m) → (lr l p q i f m b).1 + (lr l p q i f m b).2 ≤ l.length ∧ Ris l p (lr l p q i f m b).1 ((lr l p q i f m b).1 + (lr l p q i f m b).2)
  | 0, i, f, m, b, h, _, _, h3, _, _, h6 => ⟨by simp only [lr]; omega, h6⟩
  | q + 1, i, f, m, b, h, h1, h2, h3, h4, h5, h6 => by
    simp only [lr]
    cases hc : lt_ l p ((i - 1 : Nat) : Int) i with
    | true =>
      have hr : Ris l p b (i + 1) := fun j ha hb => by
        by_cases e : j + 1 < i
        · exact h5 j ha e
        · have : j = i - 1 := by omega
          subst this
          rw [show i - 1 + 1 = i by omega]
          exact hc
      rw [cond_true]
      by_cases hm : i - b + 1 > m
      · rw [decide_eq_true hm, cond_true]
        exact lr_ok l p q (i + 1) b (i - b + 1) b (by omega) (by omega) (by omega) (by omega) (by omega) hr (by rw [show b + (i - b + 1) = i + 1 by omega]; exact hr)
      · rw [decide_eq_false hm, cond_false]
        exact lr_ok l p q (i + 1) f m b (by omega) (by omega) (by omega) (by omega) h4 hr h6
    | false =>
      rw [cond_false, decide_eq_false (by omega : ¬ 1 > m), cond_false]
      exact lr_ok l p q (i + 1) f m i (by omega) (by omega) (by omega) (by omega) h4 (fun j ha hb => by omega) h6
section
variable {l : List Trial} {p : Int} (H : OKL l p)
include H
theorem rise_l1 (kj : Int → Int → Option (Int × Int × Int)) : ∀ (q i N f m b : Nat), i + q = l.length → q < N → 0 < i → b < i → f + m ≤ i → 0 < m → i_LongestRise_l1 kj l p N (f : Int) (m : Int) (b : Int) (i : Int) = kj ((lr l p q i f m b).1 : Nat) ((lr l p q i f m b).2 : Nat) ∧ s_LongestRise_l1 kj l p N (f : Int) (m : Int) (b : Int) (i : Int) = kj ((lr l p q i f m b).1 : Nat) ((lr l p q i f m b).2 : Nat) := by
  intro q
  induction q with
  | zero =>
    intro i N f m b h1 h2 h3 h4 h5 h6
    obtain ⟨N, rfl⟩ := pos_fuel h2
    have hz : ¬ (i : Int) < (l.length : Int) := by omega
    simp only [i_LongestRise_l1, s_LongestRise_l1, hz, decide_false, cond_false, lr, and_self]
  | succ q ih =>
    intro i N f m b h1 h2 h3 h4 h5 h6
    obtain ⟨N, rfl⟩ := pos_fuel h2
    have hi : i < l.length := by omega
    have hz : (i : Int) < (l.length : Int) := by omega
    have hn := H.n
    have z1 : w64 ((i : Int) - 1) = ((i - 1 : Nat) : Int) := by rw [w64_id (by omega) (by omega)]; omega
    have z2 : ∀ c : Nat, c ≤ i → w64 (w64 ((i : Int) - c) + 1) = ((i - c + 1 : Nat) : Int) := fun c hc => by
      rw [w64_id (x := (i : Int) - c) (by omega) (by omega), w64_id (by omega) (by omega)]; omega
    obtain ⟨a1, a2, _⟩ := at_ok H (i - 1) i (by omega) hi
    simp only [i_LongestRise_l1, s_LongestRise_l1, hz, decide_true, cond_true, z1, idx_lt l i hi, idx_lt l (i - 1) (by omega), Option.bind_some, a1, a2, w64_nat i (by omega), withK_n, lr]
    cases lt_ l p ((i - 1 : Nat) : Int) i with
    | true =>
      have e : decide (((i - b + 1 : Nat) : Int) > (m : Int)) = decide (i - b + 1 > m) := decide_eq_decide.2 (by omega)
      simp only [Bool.not_true, cond_false, cond_true, z2 b (by omega), e]
      by_cases hm : i - b + 1 > m
      · simp only [hm, decide_true, cond_true]
        exact ih (i + 1) N b (i - b + 1) b (by omega) (by omega) (by omega) (by omega) (by omega) (by omega)
      · simp only [hm, decide_false, cond_false]
        exact ih (i + 1) N f m b (by omega) (by omega) (by omega) (by omega) (by omega) h6
    | false =>
      have e : decide (((i - i + 1 : Nat) : Int) > (m : Int)) = false := decide_eq_false (by omega)
      have e2 : decide (1 > m) = false := decide_eq_false (by omega)
      simp only [Bool.not_false, cond_false, cond_true, z2 i (Nat.le_refl _), e, e2]
      exact ih (i + 1) N f m i (by omega) (by omega) (by omega) (by omega) (by omega) h6
end
end Go.Proofs.Ytpdcifgphocllaa
