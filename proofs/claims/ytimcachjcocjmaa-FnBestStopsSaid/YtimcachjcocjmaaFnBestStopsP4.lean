/-
  Plain lemmas on these functions. No conditions but those that each states.
-/
import Derived.Test.YtimcachjcocjmaaFnBestStopsP3
namespace Go.Proofs.Ytimcachjcocjmaa
set_option linter.unusedVariables false
set_option linter.unusedSimpArgs false
/-! Rows and their plans. -/
/-- a row -/
def Row (row : Str) : Prop := row.length ≤ 30 ∧ (∀ c ∈ row, c = 32 ∨ (33 ≤ c ∧ c ≤ 126)) ∧ (∀ h : 0 < row.length, row[row.length - 1] ≠ 32)
inductive Segs (stops : List Int) (row : Str) : Nat → Nat → List (Str × UInt8) → Prop
  | done {at_ : Nat} : Segs stops row row.length at_ []
  | blank {x at_ : Nat} {l : List (Str × UInt8)} (h : x < row.length) : row[x] = 32 → Segs stops row (x + 1) at_ l → Segs stops row x at_ l
  | letter {x at_ : Nat} {p : Str} {l : List (Str × UInt8)} (h : x < row.length) : row[x] ≠ 32 → p.length ≤ 31 → (∀ m ∈ p, m ∈ three) → go stops at_ p = some x → (∀ p' : Str, (∀ m ∈ p', m ∈ three) → go stops at_ p' = some x → p.length ≤ p'.length) → Segs stops row (x + 1) (x + 1) l → Segs stops row x at_ ((p, row[x]) :: l)
def flat (l : List (Str × UInt8)) : Str := l.flatMap fun s => s.1 ++ [39, s.2]
def total : List (Str × UInt8) → Nat
  | [] => 0
  | s :: l => s.1.length + total l
theorem flat_cons (s : Str × UInt8) (l : List (Str × UInt8)) : flat (s :: l) = s.1 ++ [39, s.2] ++ flat l := rfl
theorem flat_length : ∀ l : List (Str × UInt8), (flat l).length = total l + 2 * l.length
  | [] => rfl
  | s :: l => by rw [flat_cons]; simp only [List.length_append, List.length_cons, List.length_nil, flat_length l, total]; omega
theorem sub1 (s : Str) (k : Nat) (h : k < s.length) : sub s (k : Int) ((k + 1 : Nat) : Int) = some [s[k]] := by
  rw [sub_some s _ _ (by omega) (by omega) (by omega)]
  simp only [Int.toNat_natCast, Nat.add_sub_cancel_left]
  rw [List.drop_eq_getElem_cons h]
  rfl
/-- letters that a row still has -/
def more_ (row : Str) (x : Nat) : Nat := ((row.drop x).filter (fun c => c != 32)).length
theorem more_succ (row : Str) (x : Nat) (h : x < row.length) : more_ row x = (if row[x] = 32 then 0 else 1) + more_ row (x + 1) := by
  unfold more_
  rw [List.drop_eq_getElem_cons h, List.filter_cons]
  by_cases e : row[x] = 32
  · simp [e]
  · have : (row[x] != 32) = true := by simpa using e
    simp [this, e]; omega
theorem rp_l1 (stops : List Int) (hs : VS stops) (row : Str) (hr : Row row) : ∀ (n x at_ : Nat), x + n = row.length → at_ ≤ x →
    ∃ l, (∀ (N : Nat) (kj : Str → Int → Option (Str × Int)) (plan : Str) (mv : Nat), n + 400 ≤ N → plan.length + 40 * n ≤ 10000 → mv + 40 * n ≤ 10000 → i_rowPlan_l1 kj stops row N plan (mv : Int) (at_ : Int) (x : Int) = kj (plan ++ flat l) ((mv + total l : Nat) : Int)) ∧ Segs stops row x at_ l ∧ l.length = more_ row x ∧ total l ≤ 31 * l.length := by
  have h30 := hr.1
  intro n
  induction n with
  | zero =>
    intro x at_ h1 h3
    obtain rfl : x = row.length := by omega
    have hi : ¬ ((row.length : Int) < (row.length : Int)) := by omega
    refine ⟨[], fun N kj plan mv h2 h4 h5 => ?_, .done, by simp [more_], by simp [total]⟩
    obtain ⟨N, rfl⟩ := pos_fuel (show 0 < N by omega)
    simp only [i_rowPlan_l1, hi, decide_false, cond_false]; simp [flat, total]
  | succ n ih =>
    intro x at_ h1 h3
    have hi : (x : Int) < (row.length : Int) := by omega
    have hx : x < row.length := by omega
    by_cases hc : row[x] = 32
    · obtain ⟨l, e, f1, f2, f3⟩ := ih (x + 1) at_ (by omega) (by omega)
      have hb : (row[x] == 32) = true := by simpa using hc
      refine ⟨l, fun N kj plan mv h2 h4 h5 => ?_, .blank hx hc f1, by rw [more_succ row x hx]; simp [hc, f2], f3⟩
      obtain ⟨N, rfl⟩ := pos_fuel (show 0 < N by omega)
      simp only [i_rowPlan_l1, hi, decide_true, cond_true, withK_eq, idx_lt row x hx, Option.bind_some, hb, w64_nat x (by omega)]
      exact e N kj plan mv (by omega) (by omega) (by omega)
    · have hb : (row[x] == 32) = false := by simpa using hc
      obtain ⟨p, g1, g2, g3, g4, g5⟩ := between_way stops hs at_ x (by omega) (by omega)
      obtain ⟨l, e, f1, f2, f3⟩ := ih (x + 1) (x + 1) (by omega) (by omega)
      refine ⟨(p, row[x]) :: l, fun N kj plan mv h2 h4 h5 => ?_, .letter hx hc g2 g3 g4 g5 f1, by rw [more_succ row x hx]; simp [hc, f2]; omega, by simp only [total, List.length_cons]; omega⟩
      obtain ⟨N, rfl⟩ := pos_fuel (show 0 < N by omega)
      have ew : w64 ((mv : Int) + (p.length : Int)) = ((mv + p.length : Nat) : Int) := by rw [w64_id (by omega) (by omega)]; omega
      simp only [i_rowPlan_l1, hi, decide_true, cond_true, withK_eq, idx_lt row x hx, Option.bind_some, hb, cond_false, g1 N (by omega), w64_nat x (by omega), sub1 row x hx, ew]
      rw [cat_some p [39] (by unfold LIM; simp; omega), Option.bind_some, cat_some _ _ (by unfold LIM; simp; omega), Option.bind_some, cat_some _ _ (by unfold LIM; simp; omega), Option.bind_some]
      simp only [total]
      rw [e N kj _ (mv + p.length) (by omega) (by simp; omega) (by omega), flat_cons]
      simp [Nat.add_assoc]
theorem rowPlan_ok (stops : List Int) (hs : VS stops) (row : Str) (hr : Row row) :
    ∃ l, (∀ N : Nat, 500 ≤ N → i_rowPlan N stops row = some (flat l, (total l : Int))) ∧ Segs stops row 0 0 l ∧ l.length = more_ row 0 ∧ total l ≤ 31 * l.length := by
  have h30 := hr.1
  obtain ⟨l, e, h⟩ := rp_l1 stops hs row hr row.length 0 0 (by omega) (by omega)
  refine ⟨l, fun N hN => ?_, h⟩
  have e := e N (fun plan5 moves6 => some (plan5, moves6)) [] 0 (by omega) (by simp; omega) (by omega)
  unfold i_rowPlan
  simp only [withK_eq]
  rw [show ((0 : Nat) : Int) = 0 from rfl] at e
  rw [e]
  simp
/-! a row is valid -/
theorem isText_ok (N : Nat) (s : Str) (low : UInt8) (most : Int) (hm : (s.length : Int) ≤ most) (hs : s.length ≤ 1000) (hc : ∀ c ∈ s, ¬ c < low ∧ ¬ c > 126) (hN : s.length + 10 < N) : i_isText N s low most = some true := by
  have loop : ∀ (K : Option Bool) (n i N : Nat), i + n = s.length → n < N → i_isText_l1 K s low N (i : Int) = K := by
    intro K n
    induction n with
    | zero =>
      intro i N h1 h2
      obtain ⟨N, rfl⟩ := pos_fuel h2
      have hi : ¬ ((i : Int) < (s.length : Int)) := by omega
      simp only [i_isText_l1, hi, decide_false, cond_false]
    | succ n ih =>
      intro i N h1 h2
      obtain ⟨N, rfl⟩ := pos_fuel h2
      have hi : (i : Int) < (s.length : Int) := by omega
      have hil : i < s.length := by omega
      obtain ⟨c1, c2⟩ := hc s[i] (List.getElem_mem hil)
      have := ih (i + 1) N (by omega) (by omega)
      simp only [i_isText_l1, hi, decide_true, cond_true, idx_lt s i hil, Option.bind_some, c1, c2, decide_false, orO_some, Bool.or_self, cond_false, w64_nat i (by omega), this]
  have := fun K => loop K s.length 0 N (by omega) (by omega)
  rw [show ((0 : Nat) : Int) = 0 from rfl] at this
  have hg : ¬ (s.length : Int) > most := by omega
  unfold i_isText
  simp only [hg, decide_false, cond_false, withK_eq, this]
theorem isRow_ok (N : Nat) (row : Str) (hr : Row row) (hN : 100 ≤ N) : i_isRow N row = some true := by
  obtain ⟨h30, hc, hlast⟩ := hr
  unfold i_isRow
  have e1 := isText_ok N row 32 30 (by omega) (by omega) (fun c h => by
    rcases hc c h with rfl | ⟨a, b⟩
    · decide
    · simp only [UInt8.lt_iff_toNat_lt, UInt8.le_iff_toNat_le, gt_iff_lt] at *
      have q1 : (33 : UInt8).toNat = 33 := rfl
      have q2 : (126 : UInt8).toNat = 126 := rfl
      have q3 : (32 : UInt8).toNat = 32 := rfl
      omega) (by omega)
  rw [e1, Option.bind_some]
  by_cases h0 : row = []
  · subst h0; rfl
  · have hpos : 0 < row.length := List.length_pos_iff.2 h0
    have hb : (row == []) = false := by simpa using h0
    have hx : idx row (w64 ((row.length : Int) - 1)) = some row[row.length - 1] := by
      rw [w64_id (by omega) (by omega), show (row.length : Int) - 1 = ((row.length - 1 : Nat) : Int) by omega, idx_lt row _ (by omega)]
    have hl : (row[row.length - 1] != 32) = true := by simpa using hlast hpos
    simp only [hb, hx, Option.bind_some, hl, orO_false, andO_true]
theorem validStops_ok (N : Nat) (stops : List Int) (hs : VS stops) (hr : ∀ i, ∀ h : i + 1 < stops.length, stops[i] < stops[i + 1]) (hN : 20 ≤ N) : i_ValidStops N stops = some true := by
  have h6 := hs.1
  have loop : ∀ (K : Option Bool) (n i N : Nat), i + n = stops.length → n < N → i_ValidStops_l1 K stops N (i : Int) = K := by
    intro K n
    induction n with
    | zero =>
      intro i N h1 h2
      obtain ⟨N, rfl⟩ := pos_fuel h2
      have hi : ¬ ((i : Int) < (stops.length : Int)) := by omega
      simp only [i_ValidStops_l1, hi, decide_false, cond_false]
    | succ n ih =>
      intro i N h1 h2
      obtain ⟨N, rfl⟩ := pos_fuel h2
      have hi : (i : Int) < (stops.length : Int) := by omega
      have hil : i < stops.length := by omega
      obtain ⟨b1, b2⟩ := hs.2 i hil
      have eb : i_between stops[i] 1 30 = some true := by
        unfold i_between
        have a1 : stops[i] ≥ 1 := b1
        simp only [a1, b2, decide_true, andO_some, Bool.and_self, Option.bind_some]
      have := ih (i + 1) N (by omega) (by omega)
      simp only [i_ValidStops_l1, hi, decide_true, cond_true, idx_lt stops i hil, Option.bind_some, eb, Bool.not_true, orO_false, w64_nat i (by omega), this]
      by_cases h0 : i = 0
      · subst h0; simp
      · obtain ⟨j, rfl⟩ : ∃ j, i = j + 1 := ⟨i - 1, by omega⟩
        have hp : ((j + 1 : Nat) : Int) > 0 := by omega
        have hx : idx stops (w64 (((j + 1 : Nat) : Int) - 1)) = some stops[j] := by
          rw [w64_id (by omega) (by omega), show ((j + 1 : Nat) : Int) - 1 = (j : Int) by omega, idx_lt stops j (by omega)]
        have hlt : ¬ stops[j + 1] ≤ stops[j] := by have := hr j hil; omega
        simp only [hp, decide_true, andO_true, hx, Option.bind_some, hlt, decide_false, cond_false]
  have := fun K => loop K stops.length 0 N (by omega) (by omega)
  rw [show ((0 : Nat) : Int) = 0 from rfl] at this
  have hg : ¬ (stops.length : Int) > 6 := by omega
  unfold i_ValidStops
  simp only [hg, decide_false, cond_false, withK_eq, this]
end Go.Proofs.Ytimcachjcocjmaa
