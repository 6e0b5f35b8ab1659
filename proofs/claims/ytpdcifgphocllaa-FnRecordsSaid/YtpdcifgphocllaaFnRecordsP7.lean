/-
  Plain lemmas on these functions. No conditions but those that each states.
-/
import Derived.Test.YtpdcifgphocllaaFnRecordsP6
namespace Go.Proofs.Ytpdcifgphocllaa
set_option linter.unusedVariables false
set_option linter.unusedSimpArgs false
/-! Tests: which one is slower. -/
def vT (x : Trial) : Bool := decide (0 ≤ x.strokes) && decide (x.strokes ≤ 100000) && (decide (0 ≤ x.errors) && decide (x.errors ≤ x.strokes)) && (decide (1 ≤ x.seconds) && decide (x.seconds ≤ 7200))
def GT (x : Trial) : Prop := 0 ≤ x.strokes ∧ x.strokes ≤ 100000 ∧ 0 ≤ x.errors ∧ x.errors ≤ x.strokes ∧ 1 ≤ x.seconds ∧ x.seconds ≤ 7200
theorem vT_iff (x : Trial) : vT x = true ↔ GT x := by
  unfold vT GT
  simp only [Bool.and_eq_true, decide_eq_true_eq]
  constructor
  · rintro ⟨⟨⟨a, b⟩, c, d⟩, e, f⟩; exact ⟨a, b, c, d, e, f⟩
  · rintro ⟨a, b, c, d, e, f⟩; exact ⟨⟨⟨a, b⟩, c, d⟩, e, f⟩
theorem vi_ok (x : Trial) : i_validTrial x = some (vT x) := by
  unfold i_validTrial i_between vT
  simp only [andO_some, Option.bind_some, ge_iff_le]
theorem vs_ok (x : Trial) : s_l20One x = some (vT x) := by
  unfold s_l20One s_l00In vT
  simp only [andO_some, Option.bind_some, ge_iff_le]
theorem vil (l : List Trial) (hl : l.length ≤ 1000) (kj : Option Bool) : ∀ (q i N : Nat), i + q = l.length → q < N → i_ValidTrials_l1 kj l N (i : Int) = (bif (l.drop i).all vT then kj else some false) ∧ s_l20Ok_l1 kj l N (i : Int) = (bif (l.drop i).all vT then kj else some false) := by
  intro q
  induction q with
  | zero =>
    intro i N h1 h2
    obtain ⟨N, rfl⟩ := pos_fuel h2
    have hz : ¬ (i : Int) < (l.length : Int) := by omega
    rw [List.drop_eq_nil_of_le (by omega)]
    simp only [i_ValidTrials_l1, s_l20Ok_l1, hz, decide_false, cond_false, List.all_nil, cond_true, and_self]
  | succ q ih =>
    intro i N h1 h2
    obtain ⟨N, rfl⟩ := pos_fuel h2
    have hi : i < l.length := by omega
    have hz : (i : Int) < (l.length : Int) := by omega
    obtain ⟨i1, i2⟩ := ih (i + 1) N (by omega) (by omega)
    rw [drop_cons l i hi]
    simp only [i_ValidTrials_l1, s_l20Ok_l1, hz, decide_true, cond_true, idx_lt l i hi, Option.bind_some, vi_ok, vs_ok, w64_nat i (by omega), i1, i2, List.all_cons]
    cases vT l[i]
    · exact ⟨rfl, rfl⟩
    · simp only [Bool.not_true, cond_false, Bool.true_and, and_self]
def vL (l : List Trial) : Bool := l.all vT && decide (l.length ≤ 40)
theorem val_ok (l : List Trial) (hl : l.length ≤ 1000) (N : Nat) (hN : l.length < N) : i_ValidTrials N l = some (vL l) ∧ s_l20Ok N l = some (vL l) ∧ s_ValidTrials N l = some (vL l) := by
  obtain ⟨h1, h2⟩ := vil l hl (some (decide ((l.length : Int) ≤ 40))) l.length 0 N (by omega) (by omega)
  have e : decide ((l.length : Int) ≤ 40) = decide (l.length ≤ 40) := decide_eq_decide.2 (by omega)
  have e2 : (bif (l.drop 0).all vT then some (decide ((l.length : Int) ≤ 40)) else some false) = some (vL l) := by
    unfold vL
    rw [List.drop_zero, e]
    cases l.all vT <;> rfl
  rw [e2, show ((0 : Nat) : Int) = 0 from rfl] at h1 h2
  have h3 : s_l20Ok N l = some (vL l) := by unfold s_l20Ok; rw [withK_n]; exact h2
  refine ⟨by unfold i_ValidTrials; rw [withK_n]; exact h1, h3, by unfold s_ValidTrials; rw [h3]; rfl⟩
def cod (l : List Trial) (p : Int) : Int := if vL l then (if 0 ≤ p ∧ p ≤ 50 then 0 else 2) else 1
theorem cod_ok (l : List Trial) (hl : l.length ≤ 1000) (p : Int) (N : Nat) (hN : l.length < N) : i_trialsCode N l p = some (cod l p) ∧ s_l20List N l p = some (cod l p) := by
  obtain ⟨h1, h2, _⟩ := val_ok l hl N hN
  have e : (decide (p ≥ 0) && decide (p ≤ 50)) = decide (0 ≤ p ∧ p ≤ 50) := by rw [Bool.eq_iff_iff]; simp
  unfold i_trialsCode s_l20List i_isPenalty s_l20Penalty i_between s_l00In
  rw [h1, h2]
  simp only [Option.bind_some, andO_some, e]
  unfold cod
  cases vL l
  · exact ⟨rfl, rfl⟩
  · by_cases h : 0 ≤ p ∧ p ≤ 50
    · simp [h]
    · simp [h]
theorem cod0 {l : List Trial} {p : Int} (h : cod l p = 0) : (∀ x ∈ l, GT x) ∧ l.length ≤ 40 ∧ 0 ≤ p ∧ p ≤ 50 := by
  unfold cod at h
  split at h
  · next hv =>
    split at h
    · next hp =>
      unfold vL at hv
      rw [Bool.and_eq_true] at hv
      exact ⟨fun x hx => (vT_iff x).1 (List.all_eq_true.1 hv.1 x hx), by simpa using hv.2, hp⟩
    · cases h
  · cases h
/-- net strokes -/
def nt (p : Int) (x : Trial) : Int := max (x.strokes - p * x.errors) 0
/-- slower -/
def sl (p : Int) (a b : Trial) : Bool := decide (nt p a * b.seconds < nt p b * a.seconds)
theorem nt_bd {p : Int} (_ : 0 ≤ p ∧ p ≤ 50) {x : Trial} (hx : GT x) : 0 ≤ nt p x ∧ nt p x ≤ 100000 := by
  obtain ⟨h1, h2, h3, h4, h5, h6⟩ := hx
  have : 0 ≤ p * x.errors := Int.mul_nonneg (by omega) h3
  unfold nt
  omega
theorem net_w {p : Int} (hp : 0 ≤ p ∧ p ≤ 50) {x : Trial} (hx : GT x) : w64 (x.strokes - w64 (p * x.errors)) = x.strokes - p * x.errors := by
  obtain ⟨h1, h2, h3, h4, h5, h6⟩ := hx
  have k1 : 0 ≤ p * x.errors := Int.mul_nonneg (by omega) h3
  have k2 : p * x.errors ≤ 50 * x.errors := Int.mul_le_mul_of_nonneg_right hp.2 h3
  rw [w64_id (x := p * x.errors) (by omega) (by omega), w64_id (by omega) (by omega)]
theorem mul_w {a b : Int} (ha : 0 ≤ a ∧ a ≤ 100000) (hb : 1 ≤ b ∧ b ≤ 7200) : w64 (a * b) = a * b := by
  have k1 : 0 ≤ a * b := Int.mul_nonneg ha.1 (by omega)
  have k2 : a * b ≤ 100000 * b := Int.mul_le_mul_of_nonneg_right ha.2 (by omega)
  rw [w64_id (by omega) (by omega)]
theorem sl_ok {p : Int} (hp : 0 ≤ p ∧ p ≤ 50) {a b : Trial} (ha : GT a) (hb : GT b) : i_Trial_slower a b p = some (sl p a b) ∧ s_l20Less a b p = some (sl p a b) ∧ w_f6faster a b p = some (sl p b a) := by
  have e1 : imax (a.strokes - p * a.errors) 0 = nt p a := by unfold imax nt; split <;> omega
  have e2 : imax (b.strokes - p * b.errors) 0 = nt p b := by unfold imax nt; split <;> omega
  have e3 : imax 0 (a.strokes - p * a.errors) = nt p a := by unfold imax nt; split <;> omega
  have e4 : imax 0 (b.strokes - p * b.errors) = nt p b := by unfold imax nt; split <;> omega
  have e5 : s_l20Net a p = some (nt p a) := by
    unfold s_l20Net s_l00Max
    rw [net_w hp ha]
    by_cases h : (0 : Int) > a.strokes - p * a.errors
    · rw [decide_eq_true h]; simp only [cond_true, Option.bind_some]; congr 1; unfold nt; omega
    · rw [decide_eq_false h]; simp only [cond_false, Option.bind_some]; congr 1; unfold nt; omega
  have e6 : s_l20Net b p = some (nt p b) := by
    unfold s_l20Net s_l00Max
    rw [net_w hp hb]
    by_cases h : (0 : Int) > b.strokes - p * b.errors
    · rw [decide_eq_true h]; simp only [cond_true, Option.bind_some]; congr 1; unfold nt; omega
    · rw [decide_eq_false h]; simp only [cond_false, Option.bind_some]; congr 1; unfold nt; omega
  have m1 := mul_w (nt_bd hp ha) ⟨hb.2.2.2.2.1, hb.2.2.2.2.2⟩
  have m2 := mul_w (nt_bd hp hb) ⟨ha.2.2.2.2.1, ha.2.2.2.2.2⟩
  refine ⟨?_, ?_, ?_⟩
  · unfold i_Trial_slower i_Trial_net
    rw [net_w hp ha, net_w hp hb, e1, e2]
    simp only [Option.bind_some, m1, m2]
    rfl
  · unfold s_l20Less
    rw [e5, e6]
    simp only [Option.bind_some, m1, m2]
    rfl
  · unfold w_f6faster
    rw [net_w hp ha, net_w hp hb, e3, e4, m1, m2]
    rfl
theorem sl_irr (p : Int) (a : Trial) : sl p a a = false := by unfold sl; exact decide_eq_false (Int.lt_irrefl _)
theorem sl_asym (p : Int) (a b : Trial) (h : sl p a b = true) : sl p b a = false := by
  unfold sl at *
  rw [decide_eq_true_eq] at h
  exact decide_eq_false (by omega)
theorem sl_neg {p : Int} {a b c : Trial} (ha : 1 ≤ a.seconds) (hb : 1 ≤ b.seconds) (hc : 1 ≤ c.seconds) (h1 : sl p a b = true) (h2 : sl p c b = false) : sl p a c = true := by
  unfold sl at *
  rw [decide_eq_true_eq] at h1 ⊢
  rw [decide_eq_false_iff_not] at h2
  refine Int.lt_of_mul_lt_mul_right (a := b.seconds) ?_ (by omega)
  have k1 : nt p a * b.seconds * c.seconds < nt p b * a.seconds * c.seconds := Int.mul_lt_mul_of_pos_right h1 (by omega)
  have k2 : nt p b * c.seconds * a.seconds ≤ nt p c * b.seconds * a.seconds := Int.mul_le_mul_of_nonneg_right (by omega) (by omega)
  have e1 : nt p a * c.seconds * b.seconds = nt p a * b.seconds * c.seconds := Int.mul_right_comm _ _ _
  have e2 : nt p b * c.seconds * a.seconds = nt p b * a.seconds * c.seconds := Int.mul_right_comm _ _ _
  have e3 : nt p c * a.seconds * b.seconds = nt p c * b.seconds * a.seconds := Int.mul_right_comm _ _ _
  omega
end Go.Proofs.Ytpdcifgphocllaa
