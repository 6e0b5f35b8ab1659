/-
  Plain lemmas on these functions. No conditions but those that each states.
-/
import Derived.Test.YtkjccgkpieakpaaFnBoxesP4
namespace Go.Proofs.Ytkjccgkpieakpaa
set_option linter.unusedVariables false
set_option linter.unusedSimpArgs false
/-- a line that is moved -/
def mov (h : Int) (e : Str) : Str := List.replicate h.toNat 32 ++ e
theorem Block_l1_eq (l : List Str) (w r : Int) (ha : l.length ≤ 1000) (hl : ∀ e ∈ l, e.length ≤ 1000) (hr0 : 0 ≤ w - r) (hr : w - r ≤ 1000) (hw : w64 (w - r) = w - r) : ∀ (n i N : Nat) (o : List Str), i + n = l.length → n + 1100 < N → o.length = i → (∀ K, i_CentreBlock_l1 K l w r N o (i : Int) = K (o ++ (l.drop i).map (mov ((w - r) / 2)))) ∧ ∀ K, s_CentreBlock_l1 K l w r N o (i : Int) = K (o ++ (l.drop i).map (mov ((w - r) / 2))) := by
  intro n
  induction n with
  | zero =>
    intro i N o h1 h3 h4
    obtain ⟨N, rfl⟩ := pos_fuel (by omega : 0 < N)
    have hi : ¬ ((i : Int) < (l.length : Int)) := by omega
    have e2 : l.drop i = [] := List.drop_of_length_le (by omega)
    exact ⟨fun K => by simp [i_CentreBlock_l1, hi, e2], fun K => by simp [s_CentreBlock_l1, hi, e2]⟩
  | succ n ih =>
    intro i N o h1 h3 h4
    obtain ⟨N, rfl⟩ := pos_fuel (by omega : 0 < N)
    have hi : (i : Int) < (l.length : Int) := by omega
    have hn : i < l.length := by omega
    have hle := hl _ (List.getElem_mem hn)
    obtain ⟨h5, h6⟩ := ih (i + 1) N (o ++ [mov ((w - r) / 2) l[i]]) (by omega) (by omega) (by simp; omega)
    have er : o ++ [mov ((w - r) / 2) l[i]] ++ (l.drop (i + 1)).map (mov ((w - r) / 2)) = o ++ (l.drop i).map (mov ((w - r) / 2)) := by rw [drop_cons l i hn, List.map_cons]; simp only [List.append_assoc, List.cons_append, List.nil_append]
    have e0 := half_eq (x := w - r) hr0 (by omega)
    have e1 := repeat_eq N 32 ((w - r) / 2) (by omega) (by omega) (by omega)
    have e2 := blanks_eq N ((w - r) / 2) (by omega) (by omega) (by omega)
    have c1 : cat (List.replicate ((w - r) / 2).toNat 32) l[i] = some (mov ((w - r) / 2) l[i]) := cat_some _ _ (by simp; unfold LIM; omega)
    have ea : app o [mov ((w - r) / 2) l[i]] = some (o ++ [mov ((w - r) / 2) l[i]]) := app_some _ _ (by simp; unfold LIM; omega)
    refine ⟨fun K => ?_, fun K => ?_⟩
    · simp only [i_CentreBlock_l1, hi, decide_true, cond_true, idx_lt l i hn, Option.bind_some, i_centred, hw, e0, e1, c1, ea, w64_nat i (by omega)]
      rw [h5, er]
    · simp only [s_CentreBlock_l1, hi, decide_true, cond_true, idx_lt l i hn, Option.bind_some, hw, e0, e2, c1, ea, w64_nat i (by omega)]
      rw [h6, er]
theorem Block_eq (N : Nat) (l : List Str) (w : Int) (ha : l.length ≤ 1000) (hl : ∀ e ∈ l, e.length ≤ 1000) (hN : l.length + 2000 < N) : ∃ p : List Str × Int, i_CentreBlock N l w = some p ∧ s_CentreBlock N l w = some p ∧ p.1.length ≤ 1002 ∧ (p.2 = 0 → okL l = true ∧ 1 ≤ w ∧ w ≤ 100 ∧ mx 0 l ≤ w ∧ p.1 = l.map (mov ((w - mx 0 l) / 2))) := by
  have h1 := areLines_eq N l ha hl (by omega)
  have h2 := lines_eq N l ha hl (by omega)
  have h3 := longest_eq N l ha hl (by omega)
  unfold i_CentreBlock s_CentreBlock
  simp only [h1, h2, h3, Option.bind_some, isWidth_eq, s_l00In_eq, orO_some]
  cases hk : okL l
  · exact ⟨([], 2), rfl, rfl, by simp, fun h => by simp at h⟩
  · obtain ⟨g1, g2, g3, g4⟩ := okL_facts hk
    have n0 : ¬ mx 0 l < 0 := by omega
    simp only [cond_true, n0, decide_false, Bool.not_true, Bool.false_or]
    cases hw : inr w 1 100
    · exact ⟨([], 2), rfl, rfl, by simp, fun h => by simp at h⟩
    · have hw := inr_iff.1 hw
      have e1 : w64 (w - mx 0 l) = w - mx 0 l := w64_id (by omega) (by omega)
      simp only [Bool.not_true, cond_false, e1]
      by_cases g : mx 0 l > w
      · have : w - mx 0 l < 0 := by omega
        exact ⟨([], 5), by simp [this], by simp [g], by simp, fun h => by simp at h⟩
      · have : ¬ w - mx 0 l < 0 := by omega
        obtain ⟨h5, h6⟩ := Block_l1_eq l w (mx 0 l) ha hl (by omega) (by omega) e1 l.length 0 N [] (by omega) (by omega) rfl
        rw [show ((0 : Nat) : Int) = 0 from rfl] at h5 h6
        refine ⟨(l.map (mov ((w - mx 0 l) / 2)), 0), ?_, ?_, by simp; omega, fun _ => ⟨by simp, hw.1, hw.2, by omega, rfl⟩⟩
        · simp only [this, decide_false, cond_false, withK_eq]
          rw [h5]; rfl
        · simp only [g, decide_false, cond_false, withK_eq]
          rw [h6]; rfl
-- a title page
theorem Tit_l1_eq (l : List Str) (ha : l.length ≤ 1000) (hl : ∀ e ∈ l, e.length ≤ 1000) : ∀ (n i N : Nat), i + n = l.length → n + 1000 < N → ∀ K, i_TitlePage_l1 K l N (i : Int) = (bif (l.drop i).all okS then K else some ([], 2)) ∧ s_TitlePage_l1 K l N (i : Int) = (bif (l.drop i).all okS then K else some ([], 2)) := by
  intro n
  induction n with
  | zero =>
    intro i N h1 h3 K
    obtain ⟨N, rfl⟩ := pos_fuel (by omega : 0 < N)
    have hi : ¬ ((i : Int) < (l.length : Int)) := by omega
    have e2 : l.drop i = [] := List.drop_of_length_le (by omega)
    simp [i_TitlePage_l1, s_TitlePage_l1, hi, e2]
  | succ n ih =>
    intro i N h1 h3 K
    obtain ⟨N, rfl⟩ := pos_fuel (by omega : 0 < N)
    have hi : (i : Int) < (l.length : Int) := by omega
    have hn : i < l.length := by omega
    have hle := hl _ (List.getElem_mem hn)
    obtain ⟨h4, h5⟩ := Setting_eq N l[i] (by unfold LIM; omega) (by omega)
    obtain ⟨h6, h7⟩ := ih (i + 1) N (by omega) (by omega) K
    simp only [i_TitlePage_l1, s_TitlePage_l1, hi, decide_true, cond_true, idx_lt l i hn, Option.bind_some, h4, h5, w64_nat i (by omega), h6, h7, drop_cons l i hn, List.all_cons]
    cases okS l[i] <;> exact ⟨rfl, rfl⟩
theorem Tit_l2_eq (l : List Str) (w : Int) (ha : l.length ≤ 1000) : ∀ (n i N : Nat), i + n = l.length → n < N → ∀ K, s_TitlePage_l2 K l w N (i : Int) = (bif (l.drop i).any (fun e => decide ((e.length : Int) > w)) then some ([], 5) else K) := by
  intro n
  induction n with
  | zero =>
    intro i N h1 h3 K
    obtain ⟨N, rfl⟩ := pos_fuel (by omega : 0 < N)
    have hi : ¬ ((i : Int) < (l.length : Int)) := by omega
    have e2 : l.drop i = [] := List.drop_of_length_le (by omega)
    simp [s_TitlePage_l2, hi, e2]
  | succ n ih =>
    intro i N h1 h3 K
    obtain ⟨N, rfl⟩ := pos_fuel (by omega : 0 < N)
    have hi : (i : Int) < (l.length : Int) := by omega
    have hn : i < l.length := by omega
    simp only [s_TitlePage_l2, hi, decide_true, cond_true, idx_lt l i hn, Option.bind_some, w64_nat i (by omega), ih (i + 1) N (by omega) (by omega) K, drop_cons l i hn, List.any_cons]
    cases decide ((l[i].length : Int) > w) <;> rfl
theorem Tit_l3_eq : ∀ (k N : Nat) (o : List Str), k < N → o.length + k ≤ 1000 → ∀ K, s_TitlePage_l3 K N o (k : Int) = K (o ++ List.replicate k []) := by
  intro k
  induction k with
  | zero =>
    intro N o h1 h2 K
    obtain ⟨N, rfl⟩ := pos_fuel h1
    simp [s_TitlePage_l3]
  | succ k ih =>
    intro N o h1 h2 K
    obtain ⟨N, rfl⟩ := pos_fuel h1
    have hk : (((k + 1 : Nat) : Int) > 0) := by omega
    have hkk : w64 (((k + 1 : Nat) : Int) - 1) = (k : Int) := by rw [w64_id (by omega) (by omega)]; omega
    have ea : app o [([] : Str)] = some (o ++ [[]]) := app_some _ _ (by simp; unfold LIM; omega)
    simp only [s_TitlePage_l3, hk, decide_true, cond_true, ea, Option.bind_some, hkk]
    rw [ih N (o ++ [[]]) (by omega) (by simp; omega) K]
    simp [List.replicate_succ]
theorem Tit_l5_eq (h : Int) (hh : h ≤ 1000) : ∀ (k N : Nat) (o : List Str), (h - o.length).toNat = k → k < N → ∀ K, s_TitlePage_l5 K h N o = K (o ++ List.replicate k []) := by
  intro k
  induction k with
  | zero =>
    intro N o h1 h2 K
    obtain ⟨N, rfl⟩ := pos_fuel h2
    have : ¬ ((o.length : Int) < h) := by omega
    simp [s_TitlePage_l5, this]
  | succ k ih =>
    intro N o h1 h2 K
    obtain ⟨N, rfl⟩ := pos_fuel h2
    have : (o.length : Int) < h := by omega
    have ea : app o [([] : Str)] = some (o ++ [[]]) := app_some _ _ (by simp; unfold LIM; omega)
    simp only [s_TitlePage_l5, this, decide_true, cond_true, ea, Option.bind_some]
    rw [ih N (o ++ [[]]) (by simp; omega) (by omega) K]
    simp [List.replicate_succ]
theorem Tit_l4_eq (l : List Str) (w : Int) (ha : l.length ≤ 1000) (hw0 : 1 ≤ w) (hw : w ≤ 1000) (hl : ∀ e ∈ l, (e.length : Int) ≤ w) : ∀ (n i N : Nat) (o : List Str), i + n = l.length → n + 1100 < N → o.length ≤ 1000 + i → (∀ K, i_TitlePage_l2 K l w N o (i : Int) = K (o ++ (l.drop i).map (fun e => cen e w))) ∧ ∀ K, s_TitlePage_l4 K l w N o (i : Int) = K (o ++ (l.drop i).map (fun e => cen e w)) := by
  intro n
  induction n with
  | zero =>
    intro i N o h1 h3 h4
    obtain ⟨N, rfl⟩ := pos_fuel (by omega : 0 < N)
    have hi : ¬ ((i : Int) < (l.length : Int)) := by omega
    have e2 : l.drop i = [] := List.drop_of_length_le (by omega)
    exact ⟨fun K => by simp [i_TitlePage_l2, hi, e2], fun K => by simp [s_TitlePage_l4, hi, e2]⟩
  | succ n ih =>
    intro i N o h1 h3 h4
    obtain ⟨N, rfl⟩ := pos_fuel (by omega : 0 < N)
    have hi : (i : Int) < (l.length : Int) := by omega
    have hn : i < l.length := by omega
    have hle := hl _ (List.getElem_mem hn)
    obtain ⟨h5, h6⟩ := ih (i + 1) N (o ++ [cen l[i] w]) (by omega) (by omega) (by simp; omega)
    have er : o ++ [cen l[i] w] ++ (l.drop (i + 1)).map (fun e => cen e w) = o ++ (l.drop i).map (fun e => cen e w) := by rw [drop_cons l i hn, List.map_cons]; simp only [List.append_assoc, List.cons_append, List.nil_append]
    have ew : w64 (w - (l[i].length : Int)) = w - l[i].length := w64_id (by omega) (by omega)
    have e0 := half_eq (x := w - (l[i].length : Int)) (by omega) (by omega)
    have e1 := repeat_eq N 32 ((w - (l[i].length : Int)) / 2) (by omega) (by omega) (by omega)
    have e2 := blanks_eq N ((w - (l[i].length : Int)) / 2) (by omega) (by omega) (by omega)
    have c1 : cat (List.replicate ((w - (l[i].length : Int)) / 2).toNat 32) l[i] = some (cen l[i] w) := cat_some _ _ (by simp; unfold LIM; omega)
    have ea : app o [cen l[i] w] = some (o ++ [cen l[i] w]) := app_some _ _ (by simp; unfold LIM; omega)
    refine ⟨fun K => ?_, fun K => ?_⟩
    · simp only [i_TitlePage_l2, hi, decide_true, cond_true, idx_lt l i hn, Option.bind_some, i_centred, ew, e0, e1, c1, ea, w64_nat i (by omega)]
      rw [h5, er]
    · simp only [s_TitlePage_l4, hi, decide_true, cond_true, idx_lt l i hn, Option.bind_some, ew, e0, e2, c1, ea, w64_nat i (by omega)]
      rw [h6, er]
def tit (l : List Str) (w h : Int) : List Str := List.replicate ((h - l.length) / 2).toNat [] ++ l.map (fun e => cen e w) ++ List.replicate (h - l.length - (h - l.length) / 2).toNat []
theorem Title_eq (N : Nat) (l : List Str) (w h : Int) (ha : l.length ≤ 1000) (hl : ∀ e ∈ l, e.length ≤ 1000) (hN : l.length + 4000 < N) : ∃ p : List Str × Int, i_TitlePage N l w h = some p ∧ s_TitlePage N l w h = some p ∧ p.1.length ≤ 1002 ∧ (p.2 = 0 → 1 ≤ w ∧ w ≤ 100 ∧ (l.length : Int) ≤ h ∧ h ≤ 30 ∧ (∀ e ∈ l, (e.length : Int) ≤ w) ∧ p.1 = tit l w h) := by
  have h1 := fun K => Tit_l1_eq l ha hl l.length 0 N (by omega) (by omega) K
  have h2 := fun K => Tit_l2_eq l w ha l.length 0 N (by omega) (by omega) K
  have h3 := longest_eq N l ha hl (by omega)
  rw [show ((0 : Nat) : Int) = 0 from rfl] at h1 h2
  simp only [List.drop_zero] at h1 h2
  unfold i_TitlePage s_TitlePage
  simp only [isWidth_eq, i_between_eq, s_l00In_eq, Option.bind_some, orO_some, h3, withK_eq, (h1 _).1, (h1 _).2, h2]
  cases hc : (decide ((l.length : Int) > 30) || !inr w 1 100 || !inr h 1 30)
  · simp only [Bool.or_eq_false_iff, decide_eq_false_iff_not, Bool.not_eq_false'] at hc
    obtain ⟨⟨c1, c2⟩, c3⟩ := hc
    have c2 := inr_iff.1 c2
    have c3 := inr_iff.1 c3
    simp only [cond_false]
    cases hs : l.all okS
    · exact ⟨([], 2), rfl, rfl, by simp, fun h => by simp at h⟩
    · simp only [cond_true]
      have e1 : w64 (h - (l.length : Int)) = h - l.length := w64_id (by omega) (by omega)
      simp only [e1]
      have hm := mx_some w l 0 (by omega)
      by_cases g : mx 0 l > w
      · have ga : l.any (fun e => decide ((e.length : Int) > w)) = true := by
          cases hx : l.any (fun e => decide ((e.length : Int) > w))
          · exfalso
            have := hm.2 (fun e he => by have := (List.any_eq_false.1 hx) e he; simp at this; omega)
            omega
          · rfl
        exact ⟨([], 5), by simp [g], by simp only [ga, cond_true], by simp, fun h => by simp at h⟩
      · have ga : l.any (fun e => decide ((e.length : Int) > w)) = false := by
          rw [List.any_eq_false]; intro e he; have := hm.1 (by omega) e he; simp; omega
        have hle := hm.1 (by omega)
        by_cases g2 : (l.length : Int) > h
        · have : h - (l.length : Int) < 0 := by omega
          exact ⟨([], 5), by simp [g, this], by simp only [ga, cond_false, g2, decide_true, cond_true], by simp, fun h => by simp at h⟩
        · have n2 : ¬ h - (l.length : Int) < 0 := by omega
          have e0 := half_eq (x := h - (l.length : Int)) (by omega) (by omega)
          have e2 : w64 (h - (l.length : Int) - (h - (l.length : Int)) / 2) = h - l.length - (h - l.length) / 2 := w64_id (by omega) (by omega)
          obtain ⟨k, hk⟩ := Int.eq_ofNat_of_zero_le (by omega : 0 ≤ (h - (l.length : Int)) / 2)
          obtain ⟨k2, hk2⟩ := Int.eq_ofNat_of_zero_le (by omega : 0 ≤ h - (l.length : Int) - (h - (l.length : Int)) / 2)
          have m1 : mk (k : Int) ([] : Str) = some (List.replicate k []) := mk_some _ _ (by unfold LIM; omega)
          have m2 : mk (k2 : Int) ([] : Str) = some (List.replicate k2 []) := mk_some _ _ (by unfold LIM; omega)
          obtain ⟨h5, h6⟩ := Tit_l4_eq l w ha c2.1 (by omega) hle l.length 0 N (List.replicate k []) (by omega) (by omega) (by simp; omega)
          rw [show ((0 : Nat) : Int) = 0 from rfl] at h5 h6
          have ht : tit l w h = List.replicate k [] ++ l.map (fun e => cen e w) ++ List.replicate k2 [] := by unfold tit; rw [hk2, hk]; simp
          have h7 := fun K => Tit_l3_eq k N [] (by omega) (by simp; omega) K
          have h8 := fun K => Tit_l5_eq h (by omega) k2 N (List.replicate k [] ++ l.map (fun e => cen e w)) (by simp; omega) (by omega) K
          have ea : app (List.replicate k [] ++ l.map (fun e => cen e w)) (List.replicate k2 []) = some (tit l w h) := by rw [ht]; exact app_some _ _ (by simp; unfold LIM; omega)
          refine ⟨(tit l w h, 0), ?_, ?_, by rw [ht]; simp; omega, fun _ => ⟨c2.1, c2.2, by omega, c3.2, hle, rfl⟩⟩
          · simp only [g, n2, decide_false, Bool.or_false, cond_false, e0, e2, hk, m1, Option.bind_some]
            rw [h5]
            rw [hk] at hk2
            simp only [List.drop_zero, hk2, w64_id (x := (k2 : Int)) (by omega) (by omega), m2, Option.bind_some, ea]
          · simp only [ga, g2, decide_false, cond_false, e0, hk]
            rw [h7]
            simp only [List.nil_append]
            rw [h6, List.drop_zero, h8, ht]
  · exact ⟨([], 2), by simp only [cond_true], by simp only [cond_true]; cases l.all okS <;> rfl, by simp, fun h => by simp at h⟩
end Go.Proofs.Ytkjccgkpieakpaa
