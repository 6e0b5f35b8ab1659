/-
  Plain lemmas on these functions. No conditions but those that each states.
-/
import Derived.Test.YtkjccgkpieakpaaFnRacksP8
namespace Go.Proofs.Ytkjccgkpieakpaa
set_option linter.unusedVariables false
set_option linter.unusedSimpArgs false
theorem repeat_l1_eq (c : UInt8) (m : Nat) (hm : m ≤ 1000000) : ∀ (n i N : Nat) (o : List UInt8), i + n = m → n < N → o.length = i → ∀ K, i_repeat_l1 K [c] (m : Int) N o (i : Int) = K (o ++ List.replicate n c) := by
  intro n
  induction n with
  | zero =>
    intro i N o h1 h2 h3 K
    obtain ⟨N, rfl⟩ := pos_fuel h2
    have hi : ¬ ((i : Int) < imax (m : Int) 0) := by unfold imax; rw [if_neg (by omega)]; omega
    simp [i_repeat_l1, hi]
  | succ n ih =>
    intro i N o h1 h2 h3 K
    obtain ⟨N, rfl⟩ := pos_fuel h2
    have hi : (i : Int) < imax (m : Int) 0 := by unfold imax; rw [if_neg (by omega)]; omega
    have ea : app o [c] = some (o ++ [c]) := app_some _ _ (by simp; unfold LIM; omega)
    simp only [i_repeat_l1, hi, decide_true, cond_true, ea, Option.bind_some, w64_nat i (by omega)]
    rw [ih (i + 1) N (o ++ [c]) (by omega) (by omega) (by simp; omega) K]
    simp [List.replicate_succ]
theorem repeat_eq (N : Nat) (c : UInt8) (x : Int) (hx : x ≤ 1000000) (hN : x < N) (hN0 : 0 < N) : i_repeat N [c] x = some (List.replicate x.toNat c) := by
  unfold i_repeat
  simp only [withK_eq]
  by_cases h : 0 ≤ x
  · obtain ⟨m, rfl⟩ := Int.eq_ofNat_of_zero_le h
    have := repeat_l1_eq c m (by omega) m 0 N [] (by omega) (by omega) rfl (fun l => some l)
    rw [show ((0 : Nat) : Int) = 0 from rfl] at this
    rw [this]; simp
  · obtain ⟨N, rfl⟩ := pos_fuel hN0
    have hi : ¬ ((0 : Int) < imax x 0) := by unfold imax; rw [if_pos (by omega)]; omega
    have : x.toNat = 0 := by omega
    simp [i_repeat_l1, hi, this]
theorem dots_eq (l : List Int) (i : Nat) (hi : i < l.length) (h1 : l[i] ≤ 119) : ∀ (n N : Nat) (o : List UInt8), (l[i] - o.length).toNat = n → n < N → ∀ K, s_RackText_l2 K l (i : Int) N o = K (o ++ List.replicate n 46) := by
  intro n
  induction n with
  | zero =>
    intro N o h2 h3 K
    obtain ⟨N, rfl⟩ := pos_fuel h3
    have : ¬ ((o.length : Int) < l[i]) := by omega
    simp [s_RackText_l2, idx_lt l i hi, this]
  | succ n ih =>
    intro N o h2 h3 K
    obtain ⟨N, rfl⟩ := pos_fuel h3
    have : (o.length : Int) < l[i] := by omega
    have ea : app o [46] = some (o ++ [46]) := app_some _ _ (by simp; unfold LIM; omega)
    simp only [s_RackText_l2, idx_lt l i hi, Option.bind_some, this, decide_true, cond_true, ea]
    rw [ih N (o ++ [46]) (by simp; omega) (by omega) K]
    simp [List.replicate_succ]
theorem RackText_l1_eq (l : List Int) (hl : l.length ≤ 12) (hv : ∀ x ∈ l, 0 ≤ x ∧ x ≤ 119) : ∀ (n i N : Nat) (o : List UInt8), i + n = l.length → n + 200 < N → o.length ≤ 120 + i →
    ∃ t : List UInt8, s_RackText_l1 (fun x => some x) l N o (i : Int) = some t ∧ i_RackText_l1 (fun x => some x) l N o (i : Int) = some t := by
  intro n
  induction n with
  | zero =>
    intro i N o h1 h2 h3
    obtain ⟨N, rfl⟩ := pos_fuel (by omega : 0 < N)
    have hi : ¬ ((i : Int) < (l.length : Int)) := by omega
    exact ⟨o, by simp [s_RackText_l1, hi], by simp [i_RackText_l1, hi]⟩
  | succ n ih =>
    intro i N o h1 h2 h3
    obtain ⟨N, rfl⟩ := pos_fuel (by omega : 0 < N)
    have hi : (i : Int) < (l.length : Int) := by omega
    have hn : i < l.length := by omega
    have hx := hv _ (List.getElem_mem hn)
    have ew : w64 (l[i] - (o.length : Int)) = l[i] - (o.length : Int) := w64_id (by omega) (by omega)
    have er := repeat_eq N 46 (l[i] - (o.length : Int)) (by omega) (by omega) (by omega)
    have ed := fun K => dots_eq l i hn hx.2 _ N o rfl (by omega) K
    obtain ⟨t, e1, e2⟩ := ih (i + 1) N (o ++ List.replicate (l[i] - (o.length : Int)).toNat 46 ++ [84]) (by omega) (by omega) (by simp; omega)
    refine ⟨t, ?_, ?_⟩
    · simp only [s_RackText_l1, hi, decide_true, cond_true, withK_eq]
      rw [ed]
      rw [app_some _ _ (by simp; unfold LIM; omega)]
      simp only [Option.bind_some, w64_nat i (by omega)]
      exact e1
    · simp only [i_RackText_l1, hi, decide_true, cond_true, idx_lt l i hn, Option.bind_some, ew, er]
      rw [cat_some _ _ (by simp; unfold LIM; omega)]
      simp only [Option.bind_some]
      rw [cat_some _ _ (by simp; unfold LIM; omega)]
      simp only [Option.bind_some, w64_nat i (by omega)]
      rw [← List.append_assoc]; exact e2
theorem RackText_eq (N : Nat) (l : List Int) (ha : l.length ≤ 1000) (hN : l.length + 300 < N) : ∃ t, s_RackText N l = some t ∧ i_RackText N l = some t := by
  obtain ⟨t, h1, h2⟩ := Rack_eq l (by unfold LIM; omega)
  obtain ⟨h3, h4⟩ := h2 N (by omega)
  cases t
  · exact ⟨[], by simp [s_RackText, h3], by simp [i_RackText, h4]⟩
  · obtain ⟨hl, hel, _⟩ := (VR_iff l).1 (h1.1 rfl)
    obtain ⟨t, e1, e2⟩ := RackText_l1_eq l hl hel l.length 0 N [] (by omega) (by omega) (by simp)
    exact ⟨t, by simpa [s_RackText, h3] using e1, by simpa [i_RackText, h4] using e2⟩
end Go.Proofs.Ytkjccgkpieakpaa
