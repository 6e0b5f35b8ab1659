/-
  Plain lemmas on these functions. No conditions but those that each states.
-/
import Derived.Test.YtkjccgkpieakpaaFnBoxesP2
namespace Go.Proofs.Ytkjccgkpieakpaa
set_option linter.unusedVariables false
set_option linter.unusedSimpArgs false
theorem isWidth_eq (x : Int) : i_isWidth x = some (inr x 1 100) := by simp only [i_isWidth, i_between_eq, Option.bind_some]
/-- the code of a text and a width -/
def cdW (s : Str) (w : Int) : Int := bif (!okS s) || !inr w 1 100 then 2 else bif decide ((s.length : Int) > w) then 5 else 0
theorem Code_eq (N : Nat) (s : Str) (w : Int) (ha : s.length ≤ LIM) (hN : s.length < N) : s_l10Code N s w = some (cdW s w) := by
  obtain ⟨h1, h2⟩ := Setting_eq N s ha hN
  unfold s_l10Code cdW
  simp only [h1, Option.bind_some, s_l00In_eq, orO_some]
  cases ((!okS s) || !inr w 1 100) <;> cases decide ((s.length : Int) > w) <;> rfl
theorem cdW_zero {s : Str} {w : Int} (h : cdW s w = 0) : okS s = true ∧ 1 ≤ w ∧ w ≤ 100 ∧ (s.length : Int) ≤ w := by
  unfold cdW at h
  cases h1 : okS s <;> cases h2 : inr w 1 100 <;> simp [h1, h2] at h
  have := inr_iff.1 h2
  refine ⟨rfl, this.1, this.2, ?_⟩
  by_cases g : (s.length : Int) > w
  · simp [g] at h
  · omega
/-- a text behind half as many blanks as there is room, a text at the end -/
def cen (s : Str) (w : Int) : Str := List.replicate (((w - s.length) / 2).toNat) 32 ++ s
def rig (s : Str) (w : Int) : Str := List.replicate ((w - s.length).toNat) 32 ++ s
theorem half_eq {x : Int} (h0 : 0 ≤ x) (h1 : x ≤ 100000) : w64 (Int.tdiv x 2) = x / 2 := by
  rw [Int.tdiv_eq_ediv_of_nonneg h0, w64_id (by omega) (by omega)]
theorem Centre_eq (N : Nat) (s : Str) (w : Int) (ha : s.length ≤ 1000) (hN : s.length + 200 < N) : ∃ p : Str × Int, i_CentreText N s w = some p ∧ s_CentreText N s w = some p ∧ p.2 = cdW s w ∧ (cdW s w = 0 → p.1 = cen s w) := by
  have hc := Code_eq N s w (by unfold LIM; omega) (by omega)
  obtain ⟨h1, h2⟩ := Setting_eq N s (by unfold LIM; omega) (by omega)
  by_cases h : cdW s w = 0
  · obtain ⟨g1, g2, g3, g4⟩ := cdW_zero h
    have e1 : w64 (w - (s.length : Int)) = w - s.length := w64_id (by omega) (by omega)
    have e2 : ¬ (w - (s.length : Int) < 0) := by omega
    have e3 := half_eq (x := w - (s.length : Int)) (by omega) (by omega)
    have e4 := repeat_eq N 32 ((w - (s.length : Int)) / 2) (by omega) (by omega) (by omega)
    have e5 := blanks_eq N ((w - (s.length : Int)) / 2) (by omega) (by omega) (by omega)
    have e6 : cat (List.replicate ((w - (s.length : Int)) / 2).toNat 32) s = some (cen s w) := by rw [cat_some _ _ (by simp; unfold LIM; omega)]; rfl
    have e7 := inr_iff.2 ⟨g2, g3⟩
    refine ⟨(cen s w, 0), ?_, ?_, h.symm, fun _ => rfl⟩
    · simp only [i_CentreText, h2, g1, Option.bind_some, Bool.not_true, orO_false, isWidth_eq, e7, cond_false, e1, e2, decide_false, i_centred, e3, e4, e6]
    · simp only [s_CentreText, hc, h, Option.bind_some, bne_self_eq_false, cond_false, e1, e3, e5, e6]
  · have hne : (cdW s w != 0) = true := by simpa using h
    refine ⟨([], cdW s w), ?_, by simp only [s_CentreText, hc, Option.bind_some, hne, cond_true], rfl, fun g => absurd g h⟩
    unfold i_CentreText
    simp only [h2, Option.bind_some, isWidth_eq, orO_some]
    cases hx : ((!okS s) || !inr w 1 100)
    · have hw : inr w 1 100 = true := by cases g : inr w 1 100 <;> simp [g] at hx ⊢
      have := inr_iff.1 hw
      have g : (s.length : Int) > w := by
        apply Classical.byContradiction; intro g; apply h
        unfold cdW; rw [hx]; simp [g]
      have e1 : w64 (w - (s.length : Int)) = w - s.length := w64_id (by omega) (by omega)
      have e2 : w - (s.length : Int) < 0 := by omega
      have e3 : cdW s w = 5 := by unfold cdW; rw [hx]; simp [g]
      simp only [cond_false, e1, e2, decide_true, cond_true, e3]
    · have e3 : cdW s w = 2 := by unfold cdW; rw [hx]; rfl
      simp only [cond_true, e3]
theorem Right_eq (N : Nat) (s : Str) (w : Int) (ha : s.length ≤ 1000) (hN : s.length + 200 < N) : ∃ p : Str × Int, i_RightText N s w = some p ∧ s_RightText N s w = some p ∧ p.2 = cdW s w ∧ (cdW s w = 0 → p.1 = rig s w) := by
  have hc := Code_eq N s w (by unfold LIM; omega) (by omega)
  obtain ⟨h1, h2⟩ := Setting_eq N s (by unfold LIM; omega) (by omega)
  by_cases h : cdW s w = 0
  · obtain ⟨g1, g2, g3, g4⟩ := cdW_zero h
    have e1 : w64 (w - (s.length : Int)) = w - s.length := w64_id (by omega) (by omega)
    have e2 : ¬ (w - (s.length : Int) < 0) := by omega
    have e4 := repeat_eq N 32 (w - (s.length : Int)) (by omega) (by omega) (by omega)
    have e5 := blanks_eq N (w - (s.length : Int)) (by omega) (by omega) (by omega)
    have e6 : cat (List.replicate (w - (s.length : Int)).toNat 32) s = some (rig s w) := by rw [cat_some _ _ (by simp; unfold LIM; omega)]; rfl
    have e7 := inr_iff.2 ⟨g2, g3⟩
    refine ⟨(rig s w, 0), ?_, ?_, h.symm, fun _ => rfl⟩
    · simp only [i_RightText, h2, g1, Option.bind_some, Bool.not_true, orO_false, isWidth_eq, e7, cond_false, e1, e2, decide_false, e4, e6]
    · simp only [s_RightText, hc, h, Option.bind_some, bne_self_eq_false, cond_false, e1, e5, e6]
  · have hne : (cdW s w != 0) = true := by simpa using h
    refine ⟨([], cdW s w), ?_, by simp only [s_RightText, hc, Option.bind_some, hne, cond_true], rfl, fun g => absurd g h⟩
    unfold i_RightText
    simp only [h2, Option.bind_some, isWidth_eq, orO_some]
    cases hx : ((!okS s) || !inr w 1 100)
    · have hw : inr w 1 100 = true := by cases g : inr w 1 100 <;> simp [g] at hx ⊢
      have := inr_iff.1 hw
      have g : (s.length : Int) > w := by
        apply Classical.byContradiction; intro g; apply h
        unfold cdW; rw [hx]; simp [g]
      have e1 : w64 (w - (s.length : Int)) = w - s.length := w64_id (by omega) (by omega)
      have e2 : w - (s.length : Int) < 0 := by omega
      have e3 : cdW s w = 5 := by unfold cdW; rw [hx]; simp [g]
      simp only [cond_false, e1, e2, decide_true, cond_true, e3]
    · have e3 : cdW s w = 2 := by unfold cdW; rw [hx]; rfl
      simp only [cond_true, e3]
/-- blanks between all letters -/
def sprT (t : Str) : Str := t.flatMap (fun y => [32, y])
def spr : Str → Str
  | [] => []
  | x :: t => x :: sprT t
theorem sprT_len (t : Str) : (sprT t).length = 2 * t.length := by
  induction t with
  | nil => rfl
  | cons y t ih => simp only [sprT, List.flatMap_cons, List.length_append, List.length_cons, List.length_nil] at ih ⊢; omega
theorem spr_l1_eq (s : Str) (ha : s.length ≤ 1000) : ∀ (n i N : Nat) (o : Str), i + n = s.length → n < N → 0 < i → o.length ≤ 2 * i → (∀ K, s_l10Spread_l1 K s N o (i : Int) = K (o ++ sprT (s.drop i))) ∧ ∀ K, i_SpreadText_l1 K s N o (i : Int) = K (o ++ sprT (s.drop i)) := by
  intro n
  induction n with
  | zero =>
    intro i N o h1 h3 h0 ho
    obtain ⟨N, rfl⟩ := pos_fuel h3
    have hi : ¬ ((i : Int) < (s.length : Int)) := by omega
    have e2 : s.drop i = [] := List.drop_of_length_le (by omega)
    exact ⟨fun K => by simp [s_l10Spread_l1, hi, e2, sprT], fun K => by simp [i_SpreadText_l1, hi, e2, sprT]⟩
  | succ n ih =>
    intro i N o h1 h3 h0 ho
    obtain ⟨N, rfl⟩ := pos_fuel h3
    have hi : (i : Int) < (s.length : Int) := by omega
    have hn : i < s.length := by omega
    have hp : (i : Int) > 0 := by omega
    obtain ⟨h4, h5⟩ := ih (i + 1) N (o ++ [32] ++ [s[i]]) (by omega) (by omega) (by omega) (by simp; omega)
    have e : o ++ [32] ++ [s[i]] ++ sprT (s.drop (i + 1)) = o ++ sprT (s.drop i) := by
      rw [drop_cons s i hn]; simp only [sprT, List.flatMap_cons, List.append_assoc, List.cons_append, List.nil_append]
    have ea : app o [32] = some (o ++ [32]) := app_some _ _ (by simp; unfold LIM; omega)
    have eb : app (o ++ [32]) [s[i]] = some (o ++ [32] ++ [s[i]]) := app_some _ _ (by simp; unfold LIM; omega)
    have ec : cat o [32] = some (o ++ [32]) := cat_some _ _ (by simp; unfold LIM; omega)
    have ed : cat (o ++ [32]) [s[i]] = some (o ++ [32] ++ [s[i]]) := cat_some _ _ (by simp; unfold LIM; omega)
    have es : sub s (i : Int) ((i + 1 : Nat) : Int) = some [s[i]] := by
      rw [sub_some _ _ _ (by omega) (by omega) (by omega)]
      simp only [Int.toNat_natCast]
      rw [drop_cons s i hn, show i + 1 - i = 1 by omega]; rfl
    refine ⟨fun K => ?_, fun K => ?_⟩
    · simp only [s_l10Spread_l1, hi, decide_true, cond_true, withK_eq, hp, ea, Option.bind_some, idx_lt s i hn, eb, w64_nat i (by omega)]
      rw [h4, e]
    · simp only [i_SpreadText_l1, hi, decide_true, cond_true, withK_eq, hp, ec, Option.bind_some, w64_nat i (by omega), es, ed]
      rw [h5, e]
theorem spr_eq (N : Nat) (s : Str) (ha : s.length ≤ 1000) (hN : s.length + 1 < N) : s_l10Spread N s = some (spr s) ∧ ∀ K, i_SpreadText_l1 K s N [] 0 = K (spr s) := by
  cases hs : s with
  | nil =>
    obtain ⟨N, rfl⟩ := pos_fuel (by omega : 0 < N)
    exact ⟨by simp [s_l10Spread, s_l10Spread_l1, spr], fun K => by simp [i_SpreadText_l1, spr]⟩
  | cons x t =>
    obtain ⟨N, rfl⟩ := pos_fuel (by omega : 0 < N)
    rw [hs] at ha hN
    have hl : (x :: t).length = t.length + 1 := rfl
    rw [hl] at ha hN
    obtain ⟨h4, h5⟩ := spr_l1_eq (x :: t) (by rw [hl]; omega) t.length 1 N [x] (by rw [hl]; omega) (by omega) (by omega) (by simp)
    rw [show (((1 : Nat) : Int)) = 1 from rfl] at h4 h5
    have hi : (0 : Int) < ((x :: t).length : Int) := by rw [hl]; omega
    have e0 : idx (x :: t) 0 = some x := rfl
    have ew : w64 (0 + 1) = 1 := by rw [w64_id (by omega) (by omega)]; rfl
    have eb : app ([] : Str) [x] = some [x] := by rw [app_some _ _ (by simp; unfold LIM; omega)]; rfl
    have ed : cat ([] : Str) [x] = some [x] := by rw [cat_some _ _ (by simp; unfold LIM; omega)]; rfl
    have es : sub (x :: t) 0 1 = some [x] := by rw [sub_some _ _ _ (by omega) (by omega) (by rw [hl]; omega)]; rfl
    refine ⟨?_, fun K => ?_⟩
    · unfold s_l10Spread
      simp only [withK_eq, s_l10Spread_l1, hi, decide_true, cond_true, Int.lt_irrefl, gt_iff_lt, decide_false, cond_false, e0, Option.bind_some, eb, ew]
      rw [h4]; rfl
    · simp only [withK_eq, i_SpreadText_l1, hi, decide_true, cond_true, Int.lt_irrefl, gt_iff_lt, decide_false, cond_false, Option.bind_some, es, ed, ew]
      rw [h5]; rfl
theorem Spread_eq (N : Nat) (s : Str) (ha : s.length ≤ 1000) (hN : s.length + 1 < N) : ∃ p : Str × Int, i_SpreadText N s = some p ∧ s_SpreadText N s = some p ∧ (p.2 = 0 → okS s = true ∧ p.1 = spr s ∧ (spr s).length ≤ 100) := by
  obtain ⟨h1, h2⟩ := Setting_eq N s (by unfold LIM; omega) (by omega)
  obtain ⟨h3, h4⟩ := spr_eq N s ha hN
  unfold i_SpreadText s_SpreadText
  simp only [h1, h2, Option.bind_some, withK_eq, h3, h4]
  cases okS s
  · exact ⟨_, rfl, rfl, fun h => by simp at h⟩
  · by_cases g : ((spr s).length : Int) > 100
    · exact ⟨([], 5), by simp [g], by simp [g], fun h => by simp at h⟩
    · exact ⟨(spr s, 0), by simp [g], by simp [g], fun _ => ⟨rfl, rfl, by omega⟩⟩
end Go.Proofs.Ytkjccgkpieakpaa
