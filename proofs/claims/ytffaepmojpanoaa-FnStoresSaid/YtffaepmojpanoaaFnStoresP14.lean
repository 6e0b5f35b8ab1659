/-
  Plain lemmas on these functions. No conditions but those that each states.
-/
import Derived.Test.YtffaepmojpanoaaFnStoresP13
namespace Go.Proofs.Ytffaepmojpanoaa
set_option linter.unusedVariables false
set_option linter.unusedSimpArgs false
theorem f6ints_l1_eq (a : List Int) (ha : a.length ≤ LIM) : ∀ (n i N : Nat), i + n = a.length → n < N → w_f6ints_l1 (some true) a a N (i : Int) = some true := by
  intro n
  induction n with
  | zero =>
    intro i N h1 h3
    obtain ⟨N, rfl⟩ := pos_fuel h3
    have hi : ¬ ((i : Int) < (a.length : Int)) := by omega
    simp only [w_f6ints_l1, hi, decide_false, cond_false]
  | succ n ih =>
    intro i N h1 h3
    obtain ⟨N, rfl⟩ := pos_fuel h3
    have hi : (i : Int) < (a.length : Int) := by omega
    have hn : i < a.length := by omega
    unfold LIM at ha
    simp only [w_f6ints_l1, hi, decide_true, cond_true, idx_lt a i hn, Option.bind_some, bne_self_eq_false, cond_false, w64_nat i (by omega)]
    exact ih (i + 1) N (by omega) (by omega)
theorem f6ints_eq {N : Nat} (a : List Int) (ha : a.length ≤ LIM) (hN : a.length < N) : w_f6ints N a a = some true := by
  unfold w_f6ints
  simp only [bne_self_eq_false, cond_false, withK_eq]
  exact f6ints_l1_eq a ha a.length 0 N (by omega) hN
theorem VP.target {l : List SparePart} (h : VP l) : ∀ e ∈ l, 0 ≤ e.target ∧ e.target ≤ 100000 := by
  intro e he
  have := h.2.1 e he
  simp only [fok, Bool.and_eq_true, inr_iff] at this
  omega
theorem St_l1 (r7 : (List SparePart) × (List Int)) (r22 : (List Int) × Int) (hv : VP r7.1) (hl : r22.1.length = r7.1.length) (h : ∀ j, ∀ h : j < r22.1.length, ∀ h2 : j < r7.1.length, r22.1[j] = imax (w64 (r7.1[j].target - r7.1[j].stock)) 0) :
    ∀ (n i N : Nat), i + n = r22.1.length → n < N → w_FnStores_l1 (some true) r7 r22 N (i : Int) = some true := by
  have h40 := hv.1
  intro n
  induction n with
  | zero =>
    intro i N h1 h3
    obtain ⟨N, rfl⟩ := pos_fuel h3
    have hi : ¬ ((i : Int) < (r22.1.length : Int)) := by omega
    simp only [w_FnStores_l1, hi, decide_false, cond_false]
  | succ n ih =>
    intro i N h1 h3
    obtain ⟨N, rfl⟩ := pos_fuel h3
    have hi : (i : Int) < (r22.1.length : Int) := by omega
    have hn : i < r22.1.length := by omega
    have hn' : i < r7.1.length := by omega
    have hs := hv.stock _ (List.getElem_mem hn')
    have ht := hv.target _ (List.getElem_mem hn')
    have hx := h i hn hn'
    rw [w64_id (by omega) (by omega)] at hx
    have c1 : decide (r22.1[i] < 0) = false := by
      rw [hx]; unfold imax; simp; split <;> omega
    have c2 : (decide (r22.1[i] > 0) && ((w64 (r22.1[i] + r7.1[i].stock)) != r7.1[i].target)) = false := by
      by_cases g : r7.1[i].target - r7.1[i].stock > 0
      · have e : r22.1[i] = r7.1[i].target - r7.1[i].stock := by rw [hx]; unfold imax; split <;> omega
        have e2 : w64 (r22.1[i] + r7.1[i].stock) = r7.1[i].target := by rw [w64_id (by omega) (by omega)]; omega
        rw [e2]; simp
      · have e : r22.1[i] = 0 := by rw [hx]; unfold imax; split <;> omega
        rw [e]; simp
    have c3 : ((r22.1[i] == 0) && decide (r7.1[i].stock < r7.1[i].target)) = false := by
      by_cases g : r7.1[i].target - r7.1[i].stock > 0
      · have e : r22.1[i] = r7.1[i].target - r7.1[i].stock := by rw [hx]; unfold imax; split <;> omega
        have e2 : (r22.1[i] == 0) = false := by simp; omega
        rw [e2]; rfl
      · have : ¬ r7.1[i].stock < r7.1[i].target := by omega
        simp [this]
    simp only [w_FnStores_l1, hi, decide_true, cond_true, idx_lt r22.1 i hn, idx_lt r7.1 i hn', Option.bind_some, andO_some, orO_some, c1, c2, c3, Bool.or_false, cond_false, w64_nat i (by omega)]
    exact ih (i + 1) N (by omega) (by omega)
theorem St_l2 (K : Option Bool) (r25 : (List SparePart) × (List Int)) (r31 : Int × Int) (hv : okW r25.1 r25.2) (h : ∀ j, ∀ (h1 : j < r25.1.length) (h2 : j < r25.2.length), r25.2[j] > r25.1[j].stock → r25.1[j].days ≤ r31.1) :
    ∀ (n i N : Nat), i + n = r25.1.length → n < N → w_FnStores_l2 K r25 r31 N (i : Int) = K := by
  have h40 := hv.1.1
  have hw := hv.2.1
  intro n
  induction n with
  | zero =>
    intro i N h1 h3
    obtain ⟨N, rfl⟩ := pos_fuel h3
    have hi : ¬ ((i : Int) < (r25.1.length : Int)) := by omega
    simp only [w_FnStores_l2, hi, decide_false, cond_false]
  | succ n ih =>
    intro i N h1 h3
    obtain ⟨N, rfl⟩ := pos_fuel h3
    have hi : (i : Int) < (r25.1.length : Int) := by omega
    have hn : i < r25.1.length := by omega
    have hn' : i < r25.2.length := by omega
    have c : (decide (r25.2[i] > r25.1[i].stock) && decide (r25.1[i].days > r31.1)) = false := by
      by_cases g : r25.2[i] > r25.1[i].stock
      · have := h i hn hn' g
        have : ¬ r25.1[i].days > r31.1 := by omega
        simp [this]
      · simp [g]
    simp only [w_FnStores_l2, hi, decide_true, cond_true, idx_lt r25.1 i hn, idx_lt r25.2 i hn', Option.bind_some, andO_some, c, cond_false, w64_nat i (by omega)]
    exact ih (i + 1) N (by omega) (by omega)
theorem St_l3 (K : Option Bool) (r7 : (List SparePart) × (List Int)) (r13 : Int × Int) (hv : okW r7.1 r7.2) (h0 : 0 ≤ r13.1) (h1 : r13.1 ≤ 100000) (h : ∀ j, ∀ (h3 : j < r7.1.length) (h4 : j < r7.2.length), r7.2[j] ≠ 0 → r13.1 ≤ Int.tdiv r7.1[j].stock r7.2[j]) :
    ∀ (n i N : Nat), i + n = r7.1.length → n < N → w_FnStores_l3 K r7 r13 N (i : Int) = K := by
  have h40 := hv.1.1
  have hw := hv.2.1
  intro n
  induction n with
  | zero =>
    intro i N h1 h3
    obtain ⟨N, rfl⟩ := pos_fuel h3
    have hi : ¬ ((i : Int) < (r7.1.length : Int)) := by omega
    simp only [w_FnStores_l3, hi, decide_false, cond_false]
  | succ n ih =>
    intro i N h1 h3
    obtain ⟨N, rfl⟩ := pos_fuel h3
    have hi : (i : Int) < (r7.1.length : Int) := by omega
    have hn : i < r7.1.length := by omega
    have hn' : i < r7.2.length := by omega
    have hs := hv.1.stock _ (List.getElem_mem hn)
    have ht := hv.2.2 i hn'
    have hm : r13.1 * r7.2[i] ≤ r7.1[i].stock := by
      by_cases g : r7.2[i] = 0
      · rw [g, Int.mul_zero]; exact hs.1
      · have := h i hn hn' g
        rw [Int.tdiv_eq_ediv_of_nonneg hs.1] at this
        exact Int.le_trans (Int.mul_le_mul_of_nonneg_right this ht.1) (Int.ediv_mul_le _ g)
    have hm0 : 0 ≤ r13.1 * r7.2[i] := Int.mul_nonneg h0 ht.1
    have c : ¬ (w64 (r13.1 * r7.2[i]) > r7.1[i].stock) := by rw [w64_id (by omega) (by omega)]; omega
    simp only [w_FnStores_l3, hi, decide_true, cond_true, idx_lt r7.1 i hn, idx_lt r7.2 i hn', Option.bind_some, c, decide_false, cond_false, w64_nat i (by omega)]
    exact ih (i + 1) N (by omega) (by omega)
theorem law_FnStores (code : List UInt8) (_ : wfL wfByte code) : ∃ N, w_FnStores N code = some true := by
  obtain ⟨N, hN⟩ : ∃ N, N = 1000 := ⟨_, rfl⟩
  refine ⟨N, ?_⟩
  unfold w_FnStores
  by_cases hb : (code.length : Int) > 4096
  · simp [w_f6big, hb]
  obtain ⟨d, e1, d1, d2⟩ := List_ok code N (by omega)
  have e2 : s_DrawMachinesFrom N code = some d := by simp [s_DrawMachinesFrom, e1]
  have e3 : s_DrawDaysUntil N code = some d := by simp [s_DrawDaysUntil, e1]
  have la : d.1.length ≤ LIM := by unfold LIM; omega
  have lb : d.2.length ≤ LIM := by unfold LIM; omega
  obtain ⟨p, q, f1, f2, f3, f4, f5⟩ := MS_eq N d.1 d.2 la lb (by omega) (by omega)
  obtain ⟨o, o1, o2, o3, o4⟩ := OrderList_inv N d.1 la (by omega)
  obtain ⟨u, u1, u2, u3⟩ := DaysUntil_inv N d.1 d.2 la lb (by omega) (by omega)
  have hf := f6ints_eq (N := N) o.1 (by unfold LIM; omega) (by omega)
  simp only [w_f6big, hb, decide_false, Option.bind_some, cond_false, e2, e3, f1, f2, f3, f4, o2, o3, u1, u2, bne_self_eq_false, orO_some, orO_false, hf, Bool.not_true, Bool.or_false, withK_eq]
  -- the order list
  have k57 : (bif (u.2 == 0) then w_FnStores_l2 (bif (p.2 != 0) then some true else w_FnStores_l3 ((idx d.2 q.1).bind fun e116 =>
      (andO (decide (e116 > 0)) ((idx d.2 q.1).bind fun e121 => (idx d.1 q.1).bind fun e123 => some (decide ((w64 ((w64 (p.1 + 1)) * e121)) > e123.stock)))).bind fun t118 => some t118) d p N 0) d u N 0
      else (bif (p.2 != 0) then some true else w_FnStores_l3 ((idx d.2 q.1).bind fun e116 =>
      (andO (decide (e116 > 0)) ((idx d.2 q.1).bind fun e121 => (idx d.1 q.1).bind fun e123 => some (decide ((w64 ((w64 (p.1 + 1)) * e121)) > e123.stock)))).bind fun t118 => some t118) d p N 0)) = some true := by
    have k91 : (bif (p.2 != 0) then some true else w_FnStores_l3 ((idx d.2 q.1).bind fun e116 =>
      (andO (decide (e116 > 0)) ((idx d.2 q.1).bind fun e121 => (idx d.1 q.1).bind fun e123 => some (decide ((w64 ((w64 (p.1 + 1)) * e121)) > e123.stock)))).bind fun t118 => some t118) d p N 0) = some true := by
      by_cases hp : p.2 = 0
      · have : (p.2 != 0) = false := by simpa using hp
        rw [this]
        obtain ⟨hv, k, g1, g2, g3, g4, g5, g6⟩ := f5 hp
        have h40 := hv.1.1
        have hw := hv.2.1
        have hs := hv.1.stock _ (List.getElem_mem g2)
        have ht := hv.2.2 k g3
        have hp0 : 0 ≤ p.1 := by rw [g5]; exact Int.tdiv_nonneg hs.1 ht.1
        have hp1 : p.1 ≤ 100000 := by
          rw [g5, Int.tdiv_eq_ediv_of_nonneg hs.1]
          exact Int.le_trans (Int.ediv_le_self _ hs.1) hs.2
        have hx : w_FnStores_l3 _ d p N 0 = _ := St_l3 ((idx d.2 q.1).bind fun e116 =>
          (andO (decide (e116 > 0)) ((idx d.2 q.1).bind fun e121 => (idx d.1 q.1).bind fun e123 => some (decide ((w64 ((w64 (p.1 + 1)) * e121)) > e123.stock)))).bind fun t118 => some t118) d p hv hp0 hp1 g6 d.1.length 0 N (by omega) (by omega)
        rw [cond_false, hx, g1]
        have hpos : d.2[k] > 0 := by omega
        have hgt : (p.1 + 1) * d.2[k] > d.1[k].stock := by
          rw [g5, Int.tdiv_eq_ediv_of_nonneg hs.1]
          exact Int.lt_ediv_add_one_mul_self _ hpos
        have hub : (p.1 + 1) * d.2[k] ≤ 100001 * 100000 := Int.mul_le_mul (by omega) ht.2 ht.1 (by omega)
        have c : w64 (w64 (p.1 + 1) * d.2[k]) > d.1[k].stock := by
          rw [w64_id (x := p.1 + 1) (by omega) (by omega), w64_id (by omega) (by omega)]
          exact hgt
        simp only [idx_lt d.2 k g3, idx_lt d.1 k g2, Option.bind_some, andO_some, hpos, c, decide_true, Bool.and_self]
      · have : (p.2 != 0) = true := by simpa using hp
        rw [this]; rfl
    rw [k91]
    by_cases hu : u.2 = 0
    · obtain ⟨hv, g⟩ := u3 hu
      have h40 := hv.1.1
      have : (u.2 == 0) = true := by simpa using hu
      rw [this, cond_true]
      exact St_l2 (some true) d u hv g d.1.length 0 N (by omega) (by omega)
    · have : (u.2 == 0) = false := by simpa using hu
      rw [this, cond_false]
  rw [k57]
  by_cases ho : o.2 = 0
  · obtain ⟨hv, g1, g2⟩ := o4 ho
    have : (o.2 == 0) = true := by simpa using ho
    rw [this, cond_true]
    exact St_l1 d o hv g1 g2 o.1.length 0 N (by omega) (by omega)
  · have : (o.2 == 0) = false := by simpa using ho
    rw [this, cond_false]
end Go.Proofs.Ytffaepmojpanoaa
