/-
  Plain lemmas on these functions. No conditions but those that each states.
-/
import Derived.Test.YtffaepmojpanoaaFnStoresP12
namespace Go.Proofs.Ytffaepmojpanoaa
set_option linter.unusedVariables false
set_option linter.unusedSimpArgs false
theorem VP.stock {l : List SparePart} (h : VP l) : ∀ e ∈ l, 0 ≤ e.stock ∧ e.stock ≤ 100000 := by
  intro e he
  have := h.2.1 e he
  simp only [fok, Bool.and_eq_true, inr_iff] at this
  omega
def ScI (l : List SparePart) (w : List Int) (i : Nat) (b f : Int) : Prop :=
  (b < 0 ∧ ∀ j, j < i → ∀ h : j < w.length, w[j] = 0) ∨
  (∃ k : Nat, b = (k : Int) ∧ ∃ (h1 : k < l.length) (h2 : k < w.length), w[k] ≠ 0 ∧ f = Int.tdiv l[k].stock w[k] ∧ ∀ j, j < i → ∀ (h3 : j < l.length) (h4 : j < w.length), w[j] ≠ 0 → f ≤ Int.tdiv l[j].stock w[j])
theorem Scarce_l1_inv (l : List SparePart) (w : List Int) (hv : okW l w) : ∀ (n i N : Nat) (b f : Int), i + n = l.length → n < N → ScI l w i b f →
    ∃ r : Int × Int, ScI l w l.length r.1 r.2 ∧ ∀ K : Int → Int → Option (Int × Int), s_l24Scarce_l1 K l w N b f (i : Int) = K r.1 r.2 ∧ i_scarcest_l1 K l w N b f (i : Int) = K r.1 r.2 := by
  intro n
  induction n with
  | zero =>
    intro i N b f h1 h3 hI
    obtain ⟨N, rfl⟩ := pos_fuel h3
    have hi : ¬ ((i : Int) < (l.length : Int)) := by omega
    have : i = l.length := by omega
    subst this
    exact ⟨(b, f), hI, fun K => by simp [s_l24Scarce_l1, i_scarcest_l1]⟩
  | succ n ih =>
    intro i N b f h1 h3 hI
    obtain ⟨N, rfl⟩ := pos_fuel h3
    have h40 := hv.1.1
    have hw := hv.2.1
    have hi : (i : Int) < (l.length : Int) := by omega
    have hn : i < l.length := by omega
    have hn' : i < w.length := by omega
    by_cases hz : w[i] = 0
    · have hI' : ScI l w (i + 1) b f := by
        rcases hI with ⟨g1, g2⟩ | ⟨k, g1, g2, g3, g4, g5, g6⟩
        · refine .inl ⟨g1, fun j hj hj2 => ?_⟩
          by_cases e : j = i
          · subst e; exact hz
          · exact g2 j (by omega) hj2
        · refine .inr ⟨k, g1, g2, g3, g4, g5, fun j hj h5 h6 h7 => ?_⟩
          by_cases e : j = i
          · subst e; exact absurd hz h7
          · exact g6 j (by omega) h5 h6 h7
      obtain ⟨r, hr, h4⟩ := ih (i + 1) N b f (by omega) (by omega) hI'
      refine ⟨r, hr, fun K => ?_⟩
      simp only [s_l24Scarce_l1, i_scarcest_l1, hi, decide_true, cond_true, idx_lt l i hn, idx_lt w i hn', Option.bind_some, w64_nat i (by omega), withK_eq, hz, beq_self_eq_true]
      exact h4 K
    · have e : (w[i] == 0) = false := by simpa using hz
      have hst := hv.1.stock _ (List.getElem_mem hn)
      have hwi := hv.2.2 i hn'
      have hq0 : 0 ≤ Int.tdiv l[i].stock w[i] := Int.tdiv_nonneg hst.1 hwi.1
      have hq1 : Int.tdiv l[i].stock w[i] ≤ l[i].stock := by
        rw [Int.tdiv_eq_ediv_of_nonneg hst.1]
        exact Int.ediv_le_self _ hst.1
      have hwq : w64 (Int.tdiv l[i].stock w[i]) = Int.tdiv l[i].stock w[i] := w64_id (by omega) (by omega)
      have hq : quoO l[i].stock w[i] = some (Int.tdiv l[i].stock w[i]) := by unfold quoO; rw [if_neg hz, hwq]
      by_cases hc : (decide (b < 0) || decide (Int.tdiv l[i].stock w[i] < f)) = true
      · have hI' : ScI l w (i + 1) (i : Int) (Int.tdiv l[i].stock w[i]) := by
          refine .inr ⟨i, rfl, hn, hn', hz, rfl, fun j hj h5 h6 h7 => ?_⟩
          by_cases e : j = i
          · subst e; exact Int.le_refl _
          · simp only [Bool.or_eq_true, decide_eq_true_eq] at hc
            rcases hI with ⟨g1, g2⟩ | ⟨k, g1, g2, g3, g4, g5, g6⟩
            · exact absurd (g2 j (by omega) h6) h7
            · have := g6 j (by omega) h5 h6 h7
              rcases hc with hc | hc <;> omega
        obtain ⟨r, hr, h4⟩ := ih (i + 1) N _ _ (by omega) (by omega) hI'
        refine ⟨r, hr, fun K => ?_⟩
        simp only [s_l24Scarce_l1, i_scarcest_l1, hi, decide_true, cond_true, idx_lt l i hn, idx_lt w i hn', Option.bind_some, w64_nat i (by omega), withK_eq, e, cond_false, hq, orO_some, hc]
        exact h4 K
      · rw [Bool.not_eq_true] at hc
        have hI' : ScI l w (i + 1) b f := by
          simp only [Bool.or_eq_false_iff, decide_eq_false_iff_not] at hc
          rcases hI with ⟨g1, g2⟩ | ⟨k, g1, g2, g3, g4, g5, g6⟩
          · exact absurd g1 hc.1
          · refine .inr ⟨k, g1, g2, g3, g4, g5, fun j hj h5 h6 h7 => ?_⟩
            by_cases e : j = i
            · subst e; omega
            · exact g6 j (by omega) h5 h6 h7
        obtain ⟨r, hr, h4⟩ := ih (i + 1) N _ _ (by omega) (by omega) hI'
        refine ⟨r, hr, fun K => ?_⟩
        simp only [s_l24Scarce_l1, i_scarcest_l1, hi, decide_true, cond_true, idx_lt l i hn, idx_lt w i hn', Option.bind_some, w64_nat i (by omega), withK_eq, e, cond_false, hq, orO_some, hc]
        exact h4 K
/-- machines and the scarce part together -/
theorem MS_eq (N : Nat) (l : List SparePart) (w : List Int) (ha : l.length ≤ LIM) (hw : w.length ≤ LIM) (hN : 2 * l.length + 100 < N) (hN2 : w.length < N) :
    ∃ p q : Int × Int, s_MachinesFrom N l w = some p ∧ i_MachinesFrom N l w = some p ∧ s_ScarcePart N l w = some q ∧ i_ScarcePart N l w = some q ∧
      (p.2 = 0 → okW l w ∧ ∃ k : Nat, q.1 = (k : Int) ∧ ∃ (h1 : k < l.length) (h2 : k < w.length), w[k] ≠ 0 ∧ p.1 = Int.tdiv l[k].stock w[k] ∧ ∀ j, ∀ (h3 : j < l.length) (h4 : j < w.length), w[j] ≠ 0 → p.1 ≤ Int.tdiv l[j].stock w[j]) := by
  obtain ⟨c, h1, h2, h3⟩ := Wants_eq N l w ha hw hN hN2
  by_cases hc : c = 0
  · have h40 := (h1 hc).1.1
    obtain ⟨r, hI, h4⟩ := Scarce_l1_inv l w (h1 hc) l.length 0 N (-1) 0 (by omega) (by omega) (.inl ⟨by omega, fun j hj => by omega⟩)
    have h5 : s_l24Scarce N l w = some r := (h4 _).1
    have h6 : i_scarcest N l w = some r := (h4 _).2
    subst hc
    by_cases hr : r.1 < 0
    · refine ⟨(0, 6), (0, 6), by simp [s_MachinesFrom, h2, h5, hr], by simp [i_MachinesFrom, h3, h6, hr], by simp [s_ScarcePart, h2, h5, hr], by simp [i_ScarcePart, h3, h6, hr], fun h => by simp at h⟩
    · refine ⟨(r.2, 0), (r.1, 0), by simp [s_MachinesFrom, h2, h5, hr], by simp [i_MachinesFrom, h3, h6, hr], by simp [s_ScarcePart, h2, h5, hr], by simp [i_ScarcePart, h3, h6, hr], fun _ => ⟨h1 rfl, ?_⟩⟩
      rcases hI with ⟨g1, _⟩ | ⟨k, g1, g2, g3, g4, g5, g6⟩
      · exact absurd g1 hr
      · exact ⟨k, g1, g2, g3, g4, g5, fun j h3 h4 h5 => g6 j h3 h3 h4 h5⟩
  · have e : (c != 0) = true := by simpa using hc
    exact ⟨(0, c), (0, c), by simp [s_MachinesFrom, h2, e], by simp [i_MachinesFrom, h3, e], by simp [s_ScarcePart, h2, e], by simp [i_ScarcePart, h3, e], fun h => absurd h hc⟩
/-- the order list, and what stands in it -/
theorem OrderList_l1_inv (l : List SparePart) (h40 : l.length ≤ 40) : ∀ (n i N : Nat) (o : List Int), i + n = l.length → n + 50 < N → o.length = i → (∀ j, ∀ h : j < o.length, ∀ h2 : j < l.length, o[j] = imax (w64 (l[j].target - l[j].stock)) 0) →
    ∃ r : List Int, r.length = l.length ∧ (∀ j, ∀ h : j < r.length, ∀ h2 : j < l.length, r[j] = imax (w64 (l[j].target - l[j].stock)) 0) ∧ ∀ K, s_OrderList_l1 K l N o (i : Int) = K r ∧ i_OrderList_l1 K l N o (i : Int) = K r := by
  intro n
  induction n with
  | zero =>
    intro i N o h1 h3 h4 h5
    obtain ⟨N, rfl⟩ := pos_fuel (by omega : 0 < N)
    have hi : ¬ ((i : Int) < (l.length : Int)) := by omega
    exact ⟨o, by omega, h5, fun K => by simp [s_OrderList_l1, i_OrderList_l1, hi]⟩
  | succ n ih =>
    intro i N o h1 h3 h4 h5
    obtain ⟨N, rfl⟩ := pos_fuel (by omega : 0 < N)
    have hi : (i : Int) < (l.length : Int) := by omega
    have hn : i < l.length := by omega
    obtain ⟨o', h6, h7, h8⟩ := ih (i + 1) N (o ++ [imax (w64 (l[i].target - l[i].stock)) 0]) (by omega) (by omega) (by simp; omega) (fun j hj hj2 => by
      by_cases e : j < o.length
      · rw [List.getElem_append_left e]; exact h5 j e hj2
      · have : j = i := by simp at hj; omega
        subst this
        rw [List.getElem_append_right (by omega)]
        simp [h4])
    refine ⟨o', h6, h7, fun K => ?_⟩
    have ea : app o [imax (w64 (l[i].target - l[i].stock)) 0] = some (o ++ [imax (w64 (l[i].target - l[i].stock)) 0]) := app_some _ _ (by simp; unfold LIM; omega)
    simp only [s_OrderList_l1, i_OrderList_l1, hi, decide_true, cond_true, idx_lt l i hn, Option.bind_some, max0_eq, ea, w64_nat i (by omega)]
    exact h8 K
theorem OrderList_inv (N : Nat) (l : List SparePart) (ha : l.length ≤ LIM) (hN : 2 * l.length + 100 < N) : ∃ p : List Int × Int, p.1.length ≤ 40 ∧ s_OrderList N l = some p ∧ i_OrderList N l = some p ∧
    (p.2 = 0 → VP l ∧ p.1.length = l.length ∧ ∀ j, ∀ h : j < p.1.length, ∀ h2 : j < l.length, p.1[j] = imax (w64 (l[j].target - l[j].stock)) 0) := by
  obtain ⟨t, h1, h2⟩ := ValidParts_eq l ha
  obtain ⟨h3, h4⟩ := h2 N hN
  cases t
  · exact ⟨([], 1), by simp, by simp [s_OrderList, h3], by simp [i_OrderList, h4], fun h => by simp at h⟩
  · have hv := h1 rfl
    have h40 := hv.1
    obtain ⟨r, h5, h6, h7⟩ := OrderList_l1_inv l hv.1 l.length 0 N [] (by omega) (by omega) (by simp) (fun j hj => by simp at hj)
    refine ⟨(r, 0), by show r.length ≤ 40; omega, ?_, ?_, fun _ => ⟨hv, h5, h6⟩⟩
    · simp only [s_OrderList, h3, Option.bind_some, Bool.not_true, cond_false, withK_eq]; exact (h7 _).1
    · simp only [i_OrderList, h4, Option.bind_some, Bool.not_true, cond_false, withK_eq]; exact (h7 _).2
theorem DaysUntil_l1_inv (l : List SparePart) (w : List Int) (hv : okW l w) : ∀ (n i N : Nat) (b : Int), i + n = l.length → n < N → (∀ j, j < i → ∀ (h1 : j < l.length) (h2 : j < w.length), w[j] > l[j].stock → l[j].days ≤ b) →
    ∃ r : Int, (∀ j, ∀ (h1 : j < l.length) (h2 : j < w.length), w[j] > l[j].stock → l[j].days ≤ r) ∧ ∀ K : Int → Option (Int × Int), s_DaysUntil_l1 K l w N b (i : Int) = K r ∧ i_DaysUntil_l1 K l w N b (i : Int) = K r := by
  intro n
  induction n with
  | zero =>
    intro i N b h1 h3 hI
    obtain ⟨N, rfl⟩ := pos_fuel h3
    have hi : ¬ ((i : Int) < (l.length : Int)) := by omega
    exact ⟨b, fun j g1 g2 => hI j (by omega) g1 g2, fun K => by simp [s_DaysUntil_l1, i_DaysUntil_l1, hi]⟩
  | succ n ih =>
    intro i N b h1 h3 hI
    obtain ⟨N, rfl⟩ := pos_fuel h3
    have h40 := hv.1.1
    have hw := hv.2.1
    have hi : (i : Int) < (l.length : Int) := by omega
    have hn : i < l.length := by omega
    have hn' : i < w.length := by omega
    have e : ∀ x y : Int, s_l00Max x y = some (imax x y) := by
      intro x y
      unfold s_l00Max imax
      by_cases h : x > y
      · have : ¬ y > x := by omega
        simp [h, this]
      · by_cases h2 : y > x
        · simp [h, h2]
        · obtain rfl : x = y := by omega
          simp
    have im : ∀ x y : Int, x ≤ imax x y ∧ y ≤ imax x y := by
      intro x y
      unfold imax
      split <;> omega
    by_cases hz : l[i].stock < w[i]
    · obtain ⟨r, hr, h4⟩ := ih (i + 1) N (imax b l[i].days) (by omega) (by omega) (fun j hj g1 g2 g3 => by
        have := im b l[i].days
        by_cases ej : j = i
        · subst ej; exact this.2
        · have := hI j (by omega) g1 g2 g3
          omega)
      have hz' : w[i] > l[i].stock := hz
      refine ⟨r, hr, fun K => ?_⟩
      simp only [s_DaysUntil_l1, i_DaysUntil_l1, hi, decide_true, cond_true, idx_lt l i hn, idx_lt w i hn', Option.bind_some, w64_nat i (by omega), withK_eq, hz, hz', e]
      exact h4 K
    · obtain ⟨r, hr, h4⟩ := ih (i + 1) N b (by omega) (by omega) (fun j hj g1 g2 g3 => by
        by_cases ej : j = i
        · subst ej; exact absurd g3 hz
        · exact hI j (by omega) g1 g2 g3)
      have hz' : ¬ w[i] > l[i].stock := hz
      refine ⟨r, hr, fun K => ?_⟩
      simp only [s_DaysUntil_l1, i_DaysUntil_l1, hi, decide_true, cond_true, idx_lt l i hn, idx_lt w i hn', Option.bind_some, w64_nat i (by omega), withK_eq, hz, hz', decide_false, cond_false]
      exact h4 K
theorem DaysUntil_inv (N : Nat) (l : List SparePart) (w : List Int) (ha : l.length ≤ LIM) (hw : w.length ≤ LIM) (hN : 2 * l.length + 100 < N) (hN2 : w.length < N) :
    ∃ p : Int × Int, s_DaysUntil N l w = some p ∧ i_DaysUntil N l w = some p ∧ (p.2 = 0 → okW l w ∧ ∀ j, ∀ (h1 : j < l.length) (h2 : j < w.length), w[j] > l[j].stock → l[j].days ≤ p.1) := by
  obtain ⟨c, h1, h2, h3⟩ := Wants_eq N l w ha hw hN hN2
  by_cases hc : c = 0
  · have h40 := (h1 hc).1.1
    obtain ⟨r, hr, h4⟩ := DaysUntil_l1_inv l w (h1 hc) l.length 0 N 0 (by omega) (by omega) (fun j hj => by omega)
    subst hc
    refine ⟨(r, 0), ?_, ?_, fun _ => ⟨h1 rfl, hr⟩⟩
    · simp only [s_DaysUntil, h2, Option.bind_some, bne_self_eq_false, cond_false, withK_eq]; exact (h4 _).1
    · simp only [i_DaysUntil, h3, Option.bind_some, bne_self_eq_false, cond_false, withK_eq]; exact (h4 _).2
  · have e : (c != 0) = true := by simpa using hc
    exact ⟨(0, c), by simp [s_DaysUntil, h2, e], by simp [i_DaysUntil, h3, e], fun h => absurd h hc⟩
end Go.Proofs.Ytffaepmojpanoaa
