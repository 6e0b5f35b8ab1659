/-
  Plain lemmas on these functions. No conditions but those that each states.
-/
import Derived.Test.YtkjccgkpieakpaaFnCentredP3
namespace Go.Proofs.Ytkjccgkpieakpaa
set_option linter.unusedVariables false
set_option linter.unusedSimpArgs false
/-- every second letter, if the others are blanks -/
def jo : Bool → Str → Str → Str × Int
  | _, o, [] => (o, 0)
  | true, o, x :: t => jo false (o ++ [x]) t
  | false, o, x :: t => bif x != 32 then ([], 8) else jo true o t
theorem tmod2 (i : Nat) : ((Int.tmod (i : Int) 2) == 0) = decide (i % 2 = 0) := by
  rw [Int.tmod_eq_emod_of_nonneg (by omega)]
  by_cases h : i % 2 = 0
  · simp [h]; omega
  · simp [h]; omega
theorem Join_l1_eq (s : Str) (ha : s.length ≤ 1000) : ∀ (n i N : Nat) (o : Str), i + n = s.length → n < N → o.length ≤ i → s_JoinSpread_l1 (fun l => some (l, 0)) s N o (i : Int) = some (jo (decide (i % 2 = 0)) o (s.drop i)) ∧ i_JoinSpread_l1 (fun l => some (l, 0)) s N o (i : Int) = some (jo (decide (i % 2 = 0)) o (s.drop i)) := by
  intro n
  induction n with
  | zero =>
    intro i N o h1 h3 h0
    obtain ⟨N, rfl⟩ := pos_fuel h3
    have hi : ¬ ((i : Int) < (s.length : Int)) := by omega
    have e2 : s.drop i = [] := List.drop_of_length_le (by omega)
    simp [s_JoinSpread_l1, i_JoinSpread_l1, hi, e2, jo]
  | succ n ih =>
    intro i N o h1 h3 h0
    obtain ⟨N, rfl⟩ := pos_fuel h3
    have hi : (i : Int) < (s.length : Int) := by omega
    have hn : i < s.length := by omega
    by_cases he : i % 2 = 0
    · have ho : decide ((i + 1) % 2 = 0) = false := by simp; omega
      have he' : decide (i % 2 = 0) = true := by simp [he]
      have ea : app o [s[i]] = some (o ++ [s[i]]) := app_some _ _ (by simp; unfold LIM; omega)
      obtain ⟨h4, h5⟩ := ih (i + 1) N (o ++ [s[i]]) (by omega) (by omega) (by simp; omega)
      rw [ho] at h4 h5
      simp only [s_JoinSpread_l1, i_JoinSpread_l1, hi, decide_true, cond_true, withK_eq, tmod2, he', idx_lt s i hn, Option.bind_some, ea, w64_nat i (by omega), h4, h5, drop_cons s i hn, jo, and_self]
    · have ho : decide ((i + 1) % 2 = 0) = true := by simp; omega
      have he' : decide (i % 2 = 0) = false := by simp [he]
      obtain ⟨h4, h5⟩ := ih (i + 1) N o (by omega) (by omega) (by omega)
      rw [ho] at h4 h5
      simp only [s_JoinSpread_l1, i_JoinSpread_l1, hi, decide_true, cond_true, cond_false, withK_eq, tmod2, he', idx_lt s i hn, Option.bind_some, w64_nat i (by omega), h4, h5, drop_cons s i hn, jo]
      cases (s[i] != 32) <;> simp
theorem Join_eq (N : Nat) (s : Str) (ha : s.length ≤ 1000) (hN : s.length + 1 < N) : ∃ p : Str × Int, i_JoinSpread N s = some p ∧ s_JoinSpread N s = some p ∧ (okS s = true → p = jo true [] s) := by
  obtain ⟨h1, h2⟩ := Setting_eq N s (by unfold LIM; omega) (by omega)
  obtain ⟨h3, h4⟩ := Join_l1_eq s ha s.length 0 N [] (by omega) (by omega) (by simp)
  rw [show ((0 : Nat) : Int) = 0 from rfl] at h3 h4
  unfold i_JoinSpread s_JoinSpread
  simp only [h1, h2, Option.bind_some, withK_eq, h3, h4]
  cases okS s
  · exact ⟨_, rfl, rfl, fun h => by cases h⟩
  · exact ⟨_, rfl, rfl, fun _ => by simp⟩
theorem jo_sprT : ∀ (t o : Str), jo false o (sprT t) = (o ++ t, 0)
  | [], o => by simp [sprT, jo]
  | y :: t, o => by
    have := jo_sprT t (o ++ [y])
    simp only [sprT, List.flatMap_cons, List.cons_append, List.nil_append, jo, bne_self_eq_false, cond_false] at this ⊢
    rw [this]; simp
theorem jo_spr (s : Str) : jo true [] (spr s) = (s, 0) := by
  cases s with
  | nil => rfl
  | cons x t => simp only [spr, jo, List.nil_append, jo_sprT]; rfl
theorem sprT_all (t : Str) (h : t.all pr = true) : (sprT t).all pr = true := by
  rw [List.all_eq_true] at h ⊢
  intro x hx
  obtain ⟨y, hy, hx⟩ := List.mem_flatMap.1 hx
  simp only [List.mem_cons, List.not_mem_nil, or_false] at hx
  rcases hx with rfl | rfl
  · rfl
  · exact h _ hy
theorem sprT_last (x : UInt8) : ∀ (t : Str), (x :: sprT t).getLast (by simp) = (x :: t).getLast (by simp)
  | [] => rfl
  | y :: t => by
    have := sprT_last y t
    simp only [sprT, List.flatMap_cons, List.cons_append, List.nil_append] at this ⊢
    rw [List.getLast_cons_cons, List.getLast_cons_cons, this, List.getLast_cons_cons]
theorem spr_ok (s : Str) (h : okS s = true) (hl : (spr s).length ≤ 100) : okS (spr s) = true := by
  cases s with
  | nil => rfl
  | cons x t =>
    unfold okS okT at h ⊢
    simp only [Bool.and_eq_true, decide_eq_true_eq] at h ⊢
    obtain ⟨⟨_, h2⟩, h3⟩ := h
    simp only [List.all_cons, Bool.and_eq_true] at h2
    refine ⟨⟨by omega, ?_⟩, ?_⟩
    · simp only [spr, List.all_cons, Bool.and_eq_true]; exact ⟨h2.1, sprT_all t h2.2⟩
    · simp only [spr, okE] at h3 ⊢
      rw [sprT_last x t]; exact h3
/-- a line under what is not blank -/
def und (c : UInt8) : UInt8 := bif c == 32 then 32 else 95
theorem Und_l1_eq (s : Str) (ha : s.length ≤ 1000) : ∀ (n i N : Nat) (o : Str), i + n = s.length → n < N → o.length = i → (∀ K, s_UnderlineText_l1 K s N o (i : Int) = K (o ++ (s.drop i).map und)) ∧ ∀ K, i_UnderlineText_l1 K s N (o ++ s.drop i) (i : Int) = K (o ++ (s.drop i).map und) := by
  intro n
  induction n with
  | zero =>
    intro i N o h1 h3 h0
    obtain ⟨N, rfl⟩ := pos_fuel h3
    have hi : ¬ ((i : Int) < (s.length : Int)) := by omega
    have e2 : s.drop i = [] := List.drop_of_length_le (by omega)
    exact ⟨fun K => by simp [s_UnderlineText_l1, hi, e2], fun K => by simp [i_UnderlineText_l1, hi, e2]⟩
  | succ n ih =>
    intro i N o h1 h3 h0
    obtain ⟨N, rfl⟩ := pos_fuel h3
    have hi : (i : Int) < (s.length : Int) := by omega
    have hn : i < s.length := by omega
    have hd := drop_cons s i hn
    have ei : idx (o ++ s.drop i) (i : Int) = some s[i] := by
      rw [idx_nat, List.getElem?_append_right (by omega), h0, Nat.sub_self, hd]; rfl
    have es : (o ++ s.drop i).set i 95 = o ++ [95] ++ s.drop (i + 1) := by
      rw [List.set_append_right _ _ (by omega), h0, Nat.sub_self, hd, List.set_cons_zero]; simp only [List.append_assoc, List.cons_append, List.nil_append]
    obtain ⟨h4, h5⟩ := ih (i + 1) N (o ++ [und s[i]]) (by omega) (by omega) (by simp; omega)
    have er : o ++ [und s[i]] ++ (s.drop (i + 1)).map und = o ++ (s.drop i).map und := by rw [hd, List.map_cons]; simp only [List.append_assoc, List.cons_append, List.nil_append]
    have ea : app o [32] = some (o ++ [32]) := app_some _ _ (by simp; unfold LIM; omega)
    have eb : app o [95] = some (o ++ [95]) := app_some _ _ (by simp; unfold LIM; omega)
    refine ⟨fun K => ?_, fun K => ?_⟩
    · rw [← er, ← h4 K]
      simp only [s_UnderlineText_l1, hi, decide_true, cond_true, withK_eq, idx_lt s i hn, Option.bind_some, ea, eb, w64_nat i (by omega)]
      unfold und
      cases (s[i] == 32) <;> rfl
    · rw [← er, ← h5 K]
      simp only [i_UnderlineText_l1, hi, decide_true, cond_true, withK_eq, ei, Option.bind_some, w64_nat i (by omega), Int.toNat_natCast, es]
      unfold und
      cases hc : (s[i] == 32)
      · have : (s[i] != 32) = true := by simp only [bne, hc]; rfl
        simp only [this, cond_true, cond_false]
      · have : (s[i] != 32) = false := by simp only [bne, hc]; rfl
        have e3 : s[i] = 32 := eq_of_beq hc
        simp only [this, cond_true, cond_false]
        rw [hd, e3]; simp only [List.append_assoc, List.cons_append, List.nil_append]
theorem Under_eq (N : Nat) (s : Str) (ha : s.length ≤ 1000) (hN : s.length + 1 < N) : ∃ p : Str × Int, i_UnderlineText N s = some p ∧ s_UnderlineText N s = some p ∧ (p.2 = 0 → okS s = true ∧ p.1.length = s.length) := by
  obtain ⟨h1, h2⟩ := Setting_eq N s (by unfold LIM; omega) (by omega)
  obtain ⟨h3, h4⟩ := Und_l1_eq s ha s.length 0 N [] (by omega) (by omega) rfl
  rw [show ((0 : Nat) : Int) = 0 from rfl] at h3 h4
  simp only [List.drop_zero, List.nil_append] at h3 h4
  have ea : app ([] : Str) s = some s := by rw [app_some _ _ (by simp; unfold LIM; omega)]; rfl
  unfold i_UnderlineText s_UnderlineText
  simp only [h1, h2, Option.bind_some, withK_eq, h3, ea, h4]
  cases okS s
  · exact ⟨_, rfl, rfl, fun h => by simp at h⟩
  · exact ⟨_, rfl, rfl, fun _ => ⟨rfl, by simp⟩⟩
theorem Back_eq (N : Nat) (s : Str) (ha : s.length ≤ 1000) (hN : s.length + 1 < N) : ∃ p : Int × Int, i_BackSpaces N s = some p ∧ s_BackSpaces N s = some p ∧ (okS s = true → p.1 = ((s.length : Int) + 1) / 2) := by
  obtain ⟨h1, h2⟩ := Setting_eq N s (by unfold LIM; omega) (by omega)
  unfold i_BackSpaces s_BackSpaces
  simp only [h1, h2, Option.bind_some]
  cases okS s
  · exact ⟨_, rfl, rfl, fun h => by cases h⟩
  · refine ⟨_, rfl, rfl, fun _ => ?_⟩
    rw [w64_id (x := (s.length : Int) + 1) (by omega) (by omega)]
    exact half_eq (by omega) (by omega)
theorem Leader_eq (N : Nat) (a b : Str) (w : Int) (ha : a.length ≤ 1000) (hb : b.length ≤ 1000) (hN : a.length + b.length + 400 < N) : ∃ p : Str × Int, i_LeaderLine N a b w = some p ∧ s_LeaderLine N a b w = some p ∧ (p.2 = 0 → (p.1.length : Int) = w) := by
  obtain ⟨h1, h2⟩ := Setting_eq N a (by unfold LIM; omega) (by omega)
  obtain ⟨h3, h4⟩ := Setting_eq N b (by unfold LIM; omega) (by omega)
  unfold i_LeaderLine s_LeaderLine
  simp only [h1, h2, h3, h4, Option.bind_some, isWidth_eq, s_l00In_eq, orO_some]
  cases hx : ((!okS a) || (!okS b)) || (!inr w 1 100)
  · have hw : inr w 1 100 = true := by cases g : inr w 1 100 <;> simp [g] at hx ⊢
    have hw := inr_iff.1 hw
    have e1 : w64 (w - (a.length : Int)) = w - a.length := w64_id (by omega) (by omega)
    have e2 : w64 (w - (a.length : Int) - (b.length : Int)) = w - a.length - b.length := w64_id (by omega) (by omega)
    have e3 : w64 (w - (a.length : Int) - (b.length : Int) - 2) = w - a.length - b.length - 2 := w64_id (by omega) (by omega)
    have e4 : w64 ((a.length : Int) + (b.length : Int)) = a.length + b.length := w64_id (by omega) (by omega)
    have e5 : w64 (w - ((a.length : Int) + (b.length : Int))) = w - a.length - b.length := by rw [w64_id (by omega) (by omega)]; omega
    simp only [cond_false, e1, e2, e3, e4, e5]
    by_cases g : w - (a.length : Int) - (b.length : Int) - 2 < 2
    · exact ⟨([], 5), by simp [g], by simp [g], fun h => by simp at h⟩
    · have r1 := repeat_eq N 46 (w - (a.length : Int) - (b.length : Int) - 2) (by omega) (by omega) (by omega)
      have r2 := rule_eq N 46 (w - (a.length : Int) - (b.length : Int) - 2) (by omega) (by omega) (by omega)
      have c1 : cat a [32] = some (a ++ [32]) := cat_some _ _ (by simp; unfold LIM; omega)
      have c2 : cat (a ++ [32]) (List.replicate (w - (a.length : Int) - (b.length : Int) - 2).toNat 46) = some (a ++ [32] ++ List.replicate (w - (a.length : Int) - (b.length : Int) - 2).toNat 46) := cat_some _ _ (by simp; unfold LIM; omega)
      have c3 : cat (a ++ [32] ++ List.replicate (w - (a.length : Int) - (b.length : Int) - 2).toNat 46) [32] = some (a ++ [32] ++ List.replicate (w - (a.length : Int) - (b.length : Int) - 2).toNat 46 ++ [32]) := cat_some _ _ (by simp; unfold LIM; omega)
      have c4 : cat (a ++ [32] ++ List.replicate (w - (a.length : Int) - (b.length : Int) - 2).toNat 46 ++ [32]) b = some (a ++ [32] ++ List.replicate (w - (a.length : Int) - (b.length : Int) - 2).toNat 46 ++ [32] ++ b) := cat_some _ _ (by simp; unfold LIM; omega)
      refine ⟨(a ++ [32] ++ List.replicate (w - (a.length : Int) - (b.length : Int) - 2).toNat 46 ++ [32] ++ b, 0), by simp only [g, decide_false, cond_false, c1, r1, c2, c3, c4, Option.bind_some], by simp only [g, decide_false, cond_false, c1, r2, c2, c3, c4, Option.bind_some], fun _ => ?_⟩
      simp; omega
  · exact ⟨([], 2), rfl, rfl, fun h => by simp at h⟩
end Go.Proofs.Ytkjccgkpieakpaa
