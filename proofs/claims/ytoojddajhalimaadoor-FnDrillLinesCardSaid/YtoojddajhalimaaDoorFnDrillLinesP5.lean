/-
  Plain lemmas on these functions. No conditions but those that each states.
-/
import Derived.Test.YtoojddajhalimaaDoorFnDrillLinesP4
namespace Go.Proofs.YtoojddajhalimaaDoor
set_option linter.unusedVariables false
set_option linter.unusedSimpArgs false
/-! Lines. -/
def chr (l : Str) (q : Nat) : UInt8 := if q % 4 = 3 then 32 else l.getD ((q / 4) % l.length) 0
def full (l : Str) (n : Nat) : Str := (List.range n).map (chr l)
theorem length_full (l : Str) (n : Nat) : (full l n).length = n := by unfold full; simp
theorem full_group (l : Str) (k : Nat) (hl : 0 < l.length) : full l (4 * (k + 1)) = full l (4 * k) ++ [l.getD (k % l.length) 0, l.getD (k % l.length) 0, l.getD (k % l.length) 0, 32] := by
  unfold full
  rw [show 4 * (k + 1) = 4 * k + 1 + 1 + 1 + 1 by omega]
  simp only [List.range_succ, List.map_append, List.map_cons, List.map_nil, List.append_assoc, List.cons_append, List.nil_append]
  have e0 : chr l (4 * k) = l.getD (k % l.length) 0 := by unfold chr; rw [if_neg (by omega), show 4 * k / 4 = k by omega]
  have e1 : chr l (4 * k + 1) = l.getD (k % l.length) 0 := by unfold chr; rw [if_neg (by omega), show (4 * k + 1) / 4 = k by omega]
  have e2 : chr l (4 * k + 1 + 1) = l.getD (k % l.length) 0 := by unfold chr; rw [if_neg (by omega), show (4 * k + 1 + 1) / 4 = k by omega]
  have e3 : chr l (4 * k + 1 + 1 + 1) = 32 := by unfold chr; rw [if_pos (by omega)]
  rw [e0, e1, e2, e3]
theorem rep3 (M : Nat) (c : UInt8) : i_repeat (M + 60) [c] 3 = some [c, c, c] := by kernel_rfl
theorem line_l1 (l : Str) (d : Drill) (hd : d.letters = l) (hl : 0 < l.length) (hl2 : l.length ≤ 8) (L : Nat) (hL : L ≤ 80) (kj : Str → Option (Str × Int)) : ∀ (n k N : Nat), 4 * k + 4 * n ≥ L → 4 * k ≤ 100 → n + 61 ≤ N → k + n ≤ 30 →
    ∃ k', L ≤ 4 * k' ∧ 4 * k' ≤ 200 ∧ i_DrillLine_l1 kj d (L : Int) N (full l (4 * k)) (k : Int) = kj (full l (4 * k')) := by
  intro n
  induction n with
  | zero =>
    intro k N h1 h2 h3 h4
    obtain ⟨N, rfl⟩ := pos_fuel (show 0 < N by omega)
    have hi : ¬ (((full l (4 * k)).length : Int) < (L : Int)) := by rw [length_full]; omega
    exact ⟨k, by omega, by omega, by simp only [i_DrillLine_l1, hi, decide_false, cond_false]⟩
  | succ n ih =>
    intro k N h1 h2 h3 h4
    obtain ⟨N, rfl⟩ := pos_fuel (show 0 < N by omega)
    by_cases c : 4 * k < L
    · have hi : ((full l (4 * k)).length : Int) < (L : Int) := by rw [length_full]; omega
      have hm := Nat.mod_lt k hl
      obtain ⟨k', g1, g2, g3⟩ := ih (k + 1) N (by omega) (by omega) (by omega) (by omega)
      refine ⟨k', g1, g2, ?_⟩
      have e1 : remO (k : Int) (l.length : Int) = some ((k % l.length : Nat) : Int) := by
        unfold remO
        rw [if_neg (by omega), Int.tmod_eq_emod_of_nonneg (by omega)]
        rfl
      have e2 : w64 (((k % l.length : Nat) : Int) + 1) = ((k % l.length + 1 : Nat) : Int) := w64_nat _ (by omega)
      have e3 : sub l ((k % l.length : Nat) : Int) ((k % l.length + 1 : Nat) : Int) = some [l.getD (k % l.length) 0] := by
        rw [sub_some l _ _ (by omega) (by omega) (by omega)]
        simp only [Int.toNat_natCast]
        rw [show k % l.length + 1 - k % l.length = 1 by omega, List.drop_eq_getElem_cons hm, List.take_succ_cons, List.take_zero]
        simp only [List.getD, List.getElem?_eq_getElem hm, Option.getD_some]
      obtain ⟨M, hM⟩ : ∃ M, N = M + 60 := ⟨N - 60, by omega⟩
      have e4 : i_repeat N [l.getD (k % l.length) 0] 3 = some [l.getD (k % l.length) 0, l.getD (k % l.length) 0, l.getD (k % l.length) 0] := by rw [hM]; exact rep3 M _
      have e5 : cat [l.getD (k % l.length) 0, l.getD (k % l.length) 0, l.getD (k % l.length) 0] [32] = some [l.getD (k % l.length) 0, l.getD (k % l.length) 0, l.getD (k % l.length) 0, 32] := cat_some _ _ (by unfold LIM; simp)
      have e6 : cat (full l (4 * k)) [l.getD (k % l.length) 0, l.getD (k % l.length) 0, l.getD (k % l.length) 0, 32] = some (full l (4 * (k + 1))) := by
        rw [cat_some _ _ (by rw [length_full]; unfold LIM; simp; omega), full_group l k hl]
      simp only [i_DrillLine_l1, hi, decide_true, cond_true, hd, e1, Option.bind_some, e2, e3, e4, e5, e6, w64_nat k (by omega)]
      exact g3
    · have hi : ¬ (((full l (4 * k)).length : Int) < (L : Int)) := by rw [length_full]; omega
      exact ⟨k, by omega, by omega, by simp only [i_DrillLine_l1, hi, decide_false, cond_false]⟩
theorem full_take (l : Str) (n m : Nat) (h : m ≤ n) : (full l n).take m = full l m := by
  unfold full
  rw [← List.map_take, List.take_range, Nat.min_eq_left h]
theorem full_get (l : Str) (n q : Nat) (h : q < n) : (full l n)[q]'(by rw [length_full]; exact h) = chr l q := by
  unfold full
  simp
/-- how long a line of at most L letters is -/
def cutL (L : Nat) : Nat := if L % 4 = 0 then L - 1 else L
theorem chr_letter (l : Str) (q : Nat) (h : q % 4 ≠ 3) (hl : 0 < l.length) (hc : ∀ c ∈ l, c ≠ 32) : chr l q ≠ 32 := by
  unfold chr
  rw [if_neg h]
  have hm := Nat.mod_lt (q / 4) hl
  simp only [List.getD, List.getElem?_eq_getElem hm, Option.getD_some]
  exact hc _ (List.getElem_mem hm)
theorem trim_eq (N : Nat) (l : Str) (L : Nat) (hL : 1 ≤ L) (hL2 : L ≤ 80) (hl : 0 < l.length) (hc : ∀ c ∈ l, c ≠ 32) (hN : 3 < N) : i_trimRight N (full l L) = some (full l (cutL L)) := by
  have stop : ∀ (N q : Nat) (kj : Int → Option Str), 0 < N → 1 ≤ q → q ≤ L → (q - 1) % 4 ≠ 3 → i_trimRight_l1 kj (full l L) N (q : Int) = kj (q : Int) := by
    intro N q kj hN h1 h2 h3
    obtain ⟨N, rfl⟩ := pos_fuel hN
    have a : (q : Int) > 0 := by omega
    have e : w64 ((q : Int) - 1) = ((q - 1 : Nat) : Int) := by rw [w64_id (by omega) (by omega)]; omega
    have b : (chr l (q - 1) == 32) = false := by rw [beq_eq_false_iff_ne]; exact chr_letter l _ h3 hl hc
    simp only [i_trimRight_l1, a, decide_true, andO_true, e, idx_lt (full l L) (q - 1) (by rw [length_full]; omega), full_get l L (q - 1) (by omega), Option.bind_some, b, cond_false]
  unfold i_trimRight cutL
  simp only [withK_eq, length_full]
  by_cases c : L % 4 = 0
  · obtain ⟨N, rfl⟩ := pos_fuel (show 0 < N by omega)
    have a : (L : Int) > 0 := by omega
    have e : w64 ((L : Int) - 1) = ((L - 1 : Nat) : Int) := by rw [w64_id (by omega) (by omega)]; omega
    have b : (chr l (L - 1) == 32) = true := by unfold chr; rw [if_pos (by omega)]; rfl
    rw [if_pos c]
    have := stop N (L - 1) (fun end2 => (sub (full l L) 0 end2).bind fun s12 => some s12) (by omega) (by omega) (by omega) (by omega)
    simp only [i_trimRight_l1, a, decide_true, andO_true, e, idx_lt (full l L) (L - 1) (by rw [length_full]; omega), full_get l L (L - 1) (by omega), Option.bind_some, b, cond_true, this]
    rw [sub_some _ _ _ (by omega) (by omega) (by rw [length_full]; omega), Option.bind_some, ← full_take l L (L - 1) (by omega)]
    simp
  · rw [if_neg c, stop N L _ (by omega) hL (Nat.le_refl _) (by omega), sub_some _ _ _ (by omega) (by omega) (by rw [length_full]; omega), Option.bind_some]
    simp only [Int.toNat_zero, List.drop_zero, Int.toNat_natCast, Nat.sub_zero]
    rw [full_take l L L (Nat.le_refl _)]
theorem Line_eq (N : Nat) (d : Drill) (h : Dr d) (L : Nat) (h1 : 1 ≤ L) (h2 : L ≤ 80) (hN : 120 ≤ N) : i_DrillLine N d (L : Int) = some (full d.letters (cutL L), 0) := by
  obtain ⟨b1, b2, _, b3⟩ := lt_len _ h.2.1
  have g1 : (L : Int) ≥ 1 := by omega
  have g2 : (L : Int) ≤ 80 := by omega
  have hb : i_between (L : Int) 1 80 = some true := by
    unfold i_between
    simp only [g1, g2, decide_true, andO_some, Bool.and_self, Option.bind_some]
  obtain ⟨k', k1, k2, k3⟩ := line_l1 d.letters d rfl (by omega) b2 L h2 (fun line10 => (sub line10 0 (L : Int)).bind fun s26 => (i_trimRight N s26).bind fun r28 => some (r28, 0)) 20 0 N (by omega) (by omega) (by omega) (by omega)
  have e0 : full d.letters (4 * 0) = [] := rfl
  rw [e0, show ((0 : Nat) : Int) = 0 from rfl] at k3
  unfold i_DrillLine
  rw [valid_ok N d h (by omega)]
  simp only [Option.bind_some, Bool.not_true, cond_false, hb, withK_eq, k3]
  rw [sub_some _ _ _ (by omega) (by omega) (by rw [length_full]; omega), Option.bind_some]
  simp only [Int.toNat_zero, List.drop_zero, Int.toNat_natCast, Nat.sub_zero]
  rw [full_take _ _ _ k1, trim_eq N _ L h1 h2 (by omega) b3 (by omega)]
  rfl
theorem w_l2 (K : Option Bool) (d : Drill) (hl : 0 < d.letters.length) (n : Nat) (hn : n ≤ 80) (z : Int) : ∀ (m q N : Nat), q + m = n → m < N → w_FnDrillLines_l2 K d (full d.letters n, z) N (q : Int) = K := by
  intro m
  induction m with
  | zero =>
    intro q N h1 h2
    obtain ⟨N, rfl⟩ := pos_fuel h2
    have hi : ¬ ((q : Int) < ((full d.letters n).length : Int)) := by rw [length_full]; omega
    simp only [w_FnDrillLines_l2, hi, decide_false, cond_false]
  | succ m ih =>
    intro q N h1 h2
    obtain ⟨N, rfl⟩ := pos_fuel h2
    have hi : (q : Int) < ((full d.letters n).length : Int) := by rw [length_full]; omega
    have hm := Nat.mod_lt (q / 4) hl
    have e1 : Int.tmod (q : Int) 4 = ((q % 4 : Nat) : Int) := by rw [Int.tmod_eq_emod_of_nonneg (by omega)]; omega
    have e2 : w64 (Int.tdiv (q : Int) 4) = ((q / 4 : Nat) : Int) := by rw [Int.tdiv_eq_ediv_of_nonneg (by omega), w64_id (by omega) (by omega)]; omega
    have e3 : remO ((q / 4 : Nat) : Int) (d.letters.length : Int) = some ((q / 4 % d.letters.length : Nat) : Int) := by
      unfold remO
      rw [if_neg (by omega), Int.tmod_eq_emod_of_nonneg (by omega)]
      rfl
    have := ih (q + 1) N (by omega) (by omega)
    simp only [w_FnDrillLines_l2, hi, decide_true, cond_true, withK_eq, idx_lt (full d.letters n) q (by rw [length_full]; omega), full_get d.letters n q (by omega), Option.bind_some, w64_nat q (by omega), this, e1, e2, e3, idx_lt d.letters _ hm]
    by_cases c : q % 4 = 3
    · have cb : (((q % 4 : Nat) : Int) == 3) = true := by rw [c]; rfl
      have : chr d.letters q = 32 := by unfold chr; rw [if_pos c]
      rw [cb, this]
      rfl
    · have cb : (((q % 4 : Nat) : Int) == 3) = false := by rw [beq_eq_false_iff_ne]; omega
      have : chr d.letters q = d.letters[q / 4 % d.letters.length] := by unfold chr; rw [if_neg c]; simp [List.getD, List.getElem?_eq_getElem hm]
      rw [cb, this]
      simp
/-! lists of drills -/
theorem mget_mset' (l : List (Str × Bool)) (k s : Str) : mget (mset l k true) s = (s == k || mget l s) := by
  induction l with
  | nil => simp only [mset, mget]; cases s == k <;> rfl
  | cons p r ih =>
    obtain ⟨a, b⟩ := p
    simp only [mset]
    by_cases h : k = a
    · subst h; simp only [beq_self_eq_true, cond_true, mget]; cases s == k <;> rfl
    · have : (k == a) = false := by simpa using h
      simp only [this, cond_false, mget]
      by_cases h2 : s = a
      · subst h2
        have : (s == k) = false := by simpa using Ne.symm h
        simp [this]
      · have : (s == a) = false := by simpa using h2
        simp only [this, cond_false]
        exact ih
/-- a drawn list: its names are the first ones -/
def DL (l : List Drill) : Prop := l.length ≤ 6 ∧ ∀ i, ∀ h : i < l.length, Dr l[i] ∧ some l[i].name = nms[i]?
theorem nms_inj : ∀ i j : Fin 6, nms[i.val]? = nms[j.val]? → i = j := by decide
theorem DL.inj {l : List Drill} (h : DL l) (i j : Nat) (hi : i < l.length) (hj : j < l.length) (he : l[i].name = l[j].name) : i = j := by
  have h1 := (h.2 i hi).2
  have h2 := (h.2 j hj).2
  rw [he] at h1
  have := nms_inj ⟨i, by have := h.1; omega⟩ ⟨j, by have := h.1; omega⟩ (h1.symm.trans h2)
  exact congrArg Fin.val this
theorem DL.take {l : List Drill} (h : DL l) (i : Nat) : DL (l.take i) := by
  refine ⟨by rw [List.length_take]; have := h.1; omega, fun j hj => ?_⟩
  rw [List.length_take] at hj
  rw [List.getElem_take]
  exact h.2 j (by omega)
theorem VD_l1 (l : List Drill) (h : DL l) (K : Option Bool) : ∀ (n i N : Nat) (mp : List (Str × Bool)), i + n = l.length → n + 61 ≤ N → (∀ s, mget mp s = true → ∃ j, ∃ hj : j < l.length, j < i ∧ s = l[j].name) → i_ValidDrills_l1 K l N mp (i : Int) = K := by
  have h6 := h.1
  intro n
  induction n with
  | zero =>
    intro i N mp h1 h2 h3
    obtain ⟨N, rfl⟩ := pos_fuel (show 0 < N by omega)
    have hi : ¬ ((i : Int) < (l.length : Int)) := by omega
    simp only [i_ValidDrills_l1, hi, decide_false, cond_false]
  | succ n ih =>
    intro i N mp h1 h2 h3
    obtain ⟨N, rfl⟩ := pos_fuel (show 0 < N by omega)
    have hi : (i : Int) < (l.length : Int) := by omega
    have hil : i < l.length := by omega
    have hg : mget mp l[i].name = false := by
      cases e : mget mp l[i].name
      · rfl
      · obtain ⟨j, hj, hji, he⟩ := h3 _ e
        have := h.inj i j hil hj he
        omega
    have := ih (i + 1) N (mset mp l[i].name true) (by omega) (by omega) (fun s hs => by
      rw [mget_mset', Bool.or_eq_true] at hs
      rcases hs with hs | hs
      · exact ⟨i, hil, by omega, by simpa using hs⟩
      · obtain ⟨j, hj, hji, he⟩ := h3 s hs
        exact ⟨j, hj, by omega, he⟩)
    simp only [i_ValidDrills_l1, hi, decide_true, cond_true, idx_lt l i hil, Option.bind_some, valid_ok N l[i] (h.2 i hil).1 (by omega), Bool.not_true, hg, orO_some, Bool.or_self, cond_false, w64_nat i (by omega), this]
theorem VD_eq (N : Nat) (l : List Drill) (h : DL l) (hN : 80 ≤ N) : i_ValidDrills N l = some true := by
  have h6 := h.1
  have := fun K => VD_l1 l h K l.length 0 N [] (by omega) (by omega) (fun s hs => by simp [mget] at hs)
  rw [show ((0 : Nat) : Int) = 0 from rfl] at this
  have c : (l.length : Int) ≤ 10 := by omega
  unfold i_ValidDrills
  rw [withK_eq, this, decide_eq_true c]
theorem Add_new (N : Nat) (l : List Drill) (h : DL l) (i : Nat) (hi : i < l.length) (hN : 80 ≤ N) : i_AddDrill N (l.take i) l[i] = some (l.take (i + 1), 0) := by
  have h6 := h.1
  have hlt : (l.take i).length = i := by rw [List.length_take]; omega
  have loop : ∀ (K : Option (List Drill × Int)) (n j N : Nat), j + n = i → n < N → i_AddDrill_l1 K (l.take i) l[i] N (j : Int) = K := by
    intro K n
    induction n with
    | zero =>
      intro j N h1 h2
      obtain ⟨N, rfl⟩ := pos_fuel h2
      have hi : ¬ ((j : Int) < ((l.take i).length : Int)) := by rw [hlt]; omega
      simp only [i_AddDrill_l1, hi, decide_false, cond_false]
    | succ n ih =>
      intro j N h1 h2
      obtain ⟨N, rfl⟩ := pos_fuel h2
      have hj : (j : Int) < ((l.take i).length : Int) := by rw [hlt]; omega
      have hjl : j < (l.take i).length := by omega
      have ne : (l[j].name == l[i].name) = false := by
        rw [beq_eq_false_iff_ne]
        intro e
        have := h.inj j i (by omega) hi e
        omega
      have := ih (j + 1) N (by omega) (by omega)
      simp only [i_AddDrill_l1, hj, decide_true, cond_true, idx_lt (l.take i) j hjl, Option.bind_some, List.getElem_take, ne, cond_false, w64_nat j (by omega), this]
  have hloop := fun K => loop K i 0 N (by omega) (by omega)
  rw [show ((0 : Nat) : Int) = 0 from rfl] at hloop
  have c : (((l.take i).length : Int) == 10) = false := by rw [beq_eq_false_iff_ne]; omega
  unfold i_AddDrill
  rw [VD_eq N _ (h.take i) hN]
  simp only [Option.bind_some, Bool.not_true, cond_false, valid_ok N l[i] (h.2 i hi).1 (by omega), withK_eq, hloop, c]
  rw [app_some [] _ (by unfold LIM; simp; omega), Option.bind_some, app_some _ _ (by unfold LIM; simp; omega), Option.bind_some, List.nil_append, ← List.take_succ_eq_append_getElem hi]
theorem Add_old (N : Nat) (l : List Drill) (h : DL l) (i : Nat) (hi : i < l.length) (hN : 80 ≤ N) : i_AddDrill N l l[i] = some ([], 4) := by
  have h6 := h.1
  have loop : ∀ (K : Option (List Drill × Int)) (n j N : Nat), j + n = i → n < N → i_AddDrill_l1 K l l[i] N (j : Int) = some ([], 4) := by
    intro K n
    induction n with
    | zero =>
      intro j N h1 h2
      obtain ⟨N, rfl⟩ := pos_fuel h2
      obtain rfl : j = i := by omega
      have hj : (j : Int) < (l.length : Int) := by omega
      simp only [i_AddDrill_l1, hj, decide_true, cond_true, idx_lt l j hi, Option.bind_some, beq_self_eq_true]
    | succ n ih =>
      intro j N h1 h2
      obtain ⟨N, rfl⟩ := pos_fuel h2
      have hj : (j : Int) < (l.length : Int) := by omega
      have hjl : j < l.length := by omega
      have ne : (l[j].name == l[i].name) = false := by
        rw [beq_eq_false_iff_ne]
        intro e
        have := h.inj j i hjl hi e
        omega
      have := ih (j + 1) N (by omega) (by omega)
      simp only [i_AddDrill_l1, hj, decide_true, cond_true, idx_lt l j hjl, Option.bind_some, ne, cond_false, w64_nat j (by omega), this]
  have hloop := fun K => loop K i 0 N (by omega) (by omega)
  rw [show ((0 : Nat) : Int) = 0 from rfl] at hloop
  unfold i_AddDrill
  rw [VD_eq N _ h hN]
  simp only [Option.bind_some, Bool.not_true, cond_false, valid_ok N l[i] (h.2 i hi).1 (by omega), withK_eq, hloop]
theorem beqD (x : Drill) : Drill.beq x x = true := by simp [Drill.beq]
theorem w_l1 (l : List Drill) (h : DL l) (z : Int) (hz0 : 0 ≤ z) (hz1 : z < 70) (K : Option Bool) : ∀ (n i N : Nat), i + n = l.length → n + 200 ≤ N → w_FnDrillLines_l1 K l z N (l.take i) (i : Int) = K := by
  have h6 := h.1
  intro n
  induction n with
  | zero =>
    intro i N h1 h2
    obtain ⟨N, rfl⟩ := pos_fuel (show 0 < N by omega)
    have hi : ¬ ((i : Int) < (l.length : Int)) := by omega
    simp only [w_FnDrillLines_l1, hi, decide_false, cond_false]
  | succ n ih =>
    intro i N h1 h2
    obtain ⟨N, rfl⟩ := pos_fuel (show 0 < N by omega)
    have hi : (i : Int) < (l.length : Int) := by omega
    have hil : i < l.length := by omega
    have hd := (h.2 i hil).1
    obtain ⟨b1, b2, _, b3⟩ := lt_len _ hd.2.1
    obtain ⟨k, hk, hk2, hk1⟩ := dg _ hd.2.2.1 hd.2.2.2
    obtain ⟨L, hL⟩ : ∃ L : Nat, L = (1 + z).toNat := ⟨_, rfl⟩
    have e1 : w64 (1 + z) = (L : Int) := by rw [w64_id (by omega) (by omega)]; omega
    have e2 : w64 ((L : Int) + 8) = ((L + 8 : Nat) : Int) := by rw [w64_id (by omega) (by omega)]; omega
    have e3 : w64 ((L : Int) - 1) = (L : Int) - 1 := w64_id (by omega) (by omega)
    have c1 : L - 1 ≤ cutL L ∧ cutL L ≤ L := by unfold cutL; split <;> omega
    have c2 : cutL (L + 8) = cutL L + 8 := by unfold cutL; split <;> split <;> omega
    have n1 : ¬ ((cutL L : Nat) : Int) < (L : Int) - 1 := by omega
    have n2 : ¬ ((cutL L : Nat) : Int) > (L : Int) := by omega
    have n3 : ¬ ((cutL L + 8 : Nat) : Int) < ((cutL L : Nat) : Int) := by omega
    have hsub : sub (full l[i].letters (cutL L + 8)) 0 ((cutL L : Nat) : Int) = some (full l[i].letters (cutL L)) := by
      rw [sub_some _ _ _ (by omega) (by omega) (by rw [length_full]; omega)]
      simp only [Int.toNat_zero, List.drop_zero, Int.toNat_natCast, Nat.sub_zero]
      rw [full_take _ _ _ (by omega)]
    have hlt : (l.take (i + 1)).length = i + 1 := by rw [List.length_take]; omega
    have hix : idx (l.take (i + 1)) (i : Int) = some l[i] := by
      rw [idx_lt _ i (by omega), List.getElem_take]
    have hw := fun K => w_l2 K l[i] (by omega) (cutL L) (by omega) 0 (cutL L) 0 N (by omega) (by omega)
    rw [show ((0 : Nat) : Int) = 0 from rfl] at hw
    have := ih (i + 1) N (by omega) (by omega)
    simp only [w_FnDrillLines_l1, hi, decide_true, cond_true, withK_eq, idx_lt l i hil, Option.bind_some, DText_eq N l[i] hd k hk hk1 hk2 (by omega), Read_eq N l[i] hd k hk hk1 hk2 (by omega), e1, e2, Line_eq N l[i] hd L (by omega) (by omega) (by omega), Line_eq N l[i] hd (L + 8) (by omega) (by omega) (by omega), c2, beqD, Bool.not_true, bne_self_eq_false, orO_some, Bool.or_self, length_full, e3, n1, n2, n3, decide_false, hsub, cond_false, Add_new N l h i hil (by omega), Add_old N l h i hil (by omega), hlt, w64_nat i (by omega), hix, hw, this]
theorem New_ok (code : List UInt8) (at_ seed : Int) (n : Str) (h0 : 0 ≤ at_) (h1 : at_ ≤ 1000000) (hn : n ∈ nms) : ∃ d a sd, s_l21New ⟨code, at_, seed⟩ n = some (d, ⟨code, a, sd⟩) ∧ at_ ≤ a ∧ a ≤ at_ + 4 ∧ Dr d ∧ d.name = n := by
  have hb : BIG = 1152921504606846976 := rfl
  obtain ⟨v1, a1, s1, e1, b1, c1, d1⟩ := text_mem code at_ seed lts (by decide) h0 (by omega)
  obtain ⟨v2, a2, s2, e2, b2, c2, d2, d3⟩ := pick_ok code a1 s1 20 (by omega) (by omega)
  have e1' : s_l00Src_text ⟨code, at_, seed⟩ [[102, 106], [97, 115, 100, 102], [101, 105], [114, 116, 121, 117], [122, 120, 99], [110, 109, 44, 46], [126, 33], [103, 104, 97, 101, 105]] = some (v1, ⟨code, a1, s1⟩) := e1
  have e3 : w64 (1 + v2) = 1 + v2 := w64_id (by omega) (by omega)
  simp only [s_l21New, e1', e2, Option.bind_some, e3]
  refine ⟨_, _, _, rfl, by omega, by omega, ⟨hn, d1, ?_, ?_⟩, rfl⟩
  · show 1 ≤ 1 + v2; omega
  · show 1 + v2 ≤ 20; omega
theorem Draw_l1 (code : List UInt8) (x y : Int) (kj : Int → Int → List Drill → Option (List Drill × L00Src)) : ∀ (n N : Nat) (at_ sd : Int) (l : List Drill), n < N → DL l → l.length + n ≤ 6 → 0 ≤ at_ → at_ ≤ 10000 - 4 * n →
    ∃ a' sd' l', s_l21Draw_l1 kj ⟨code, x, y⟩ N at_ sd l (n : Int) = kj a' sd' l' ∧ DL l' := by
  intro n
  induction n with
  | zero =>
    intro N at_ sd l hN hl _ _ _
    obtain ⟨N, rfl⟩ := pos_fuel hN
    exact ⟨at_, sd, l, by simp [s_l21Draw_l1], hl⟩
  | succ n ih =>
    intro N at_ sd l hN hl h2 h3 h4
    obtain ⟨N, rfl⟩ := pos_fuel hN
    have hi : ((n + 1 : Nat) : Int) > 0 := by omega
    have e2 : w64 (((n + 1 : Nat) : Int) - 1) = (n : Int) := by rw [w64_id (by omega) (by omega)]; omega
    have hnl : l.length < nms.length := by show l.length < 6; omega
    obtain ⟨d, a, s, e, f1, f2, f3, f4⟩ := New_ok code at_ sd nms[l.length] h3 (by omega) (List.getElem_mem hnl)
    have hix : idx nms (l.length : Int) = some nms[l.length] := idx_lt nms l.length hnl
    obtain ⟨a', s', l', g1, g2⟩ := ih N a s (l ++ [d]) (by omega) ⟨by simp; omega, fun i hi => by
      simp at hi
      by_cases c : i < l.length
      · rw [List.getElem_append_left c]; exact hl.2 i c
      · obtain rfl : i = l.length := by omega
        rw [List.getElem_append_right (Nat.le_refl _)]
        simp only [Nat.sub_self, List.getElem_cons_zero]
        exact ⟨f3, by rw [f4, List.getElem?_eq_getElem hnl]⟩⟩ (by simp; omega) (by omega) (by omega)
    refine ⟨a', s', l', ?_, g2⟩
    unfold nms at hix e
    simp only [s_l21Draw_l1, hi, decide_true, cond_true, hix, Option.bind_some, e, e2]
    rw [app_some l [d] (by unfold LIM; simp; omega), Option.bind_some]
    exact g1
theorem law_FnDrillLines (code more : List UInt8) (_ : wfL wfByte code) (_ : wfL wfByte more) : ∃ N, w_FnDrillLines N code more = some true := by
  refine ⟨1000, ?_⟩
  obtain ⟨N, hN⟩ : ∃ N, N = 1000 := ⟨_, rfl⟩
  rw [← hN]
  have hb : BIG = 1152921504606846976 := rfl
  unfold w_FnDrillLines w_a2Long
  rw [orO_some, Option.bind_some, Option.bind_some]
  cases (decide ((code.length : Int) > 3000) || decide ((more.length : Int) > 3000))
  case true => rfl
  rw [cond_false]
  have e0 : s_l00From code = some ⟨code, 0, 0⟩ := rfl
  obtain ⟨l, x1, hl⟩ : ∃ l, s_A2Drills N code = some l ∧ DL l := by
    obtain ⟨v1, a1, s1, e1, b1, c1, d1, d2⟩ := pick_ok code 0 0 7 (by omega) (by omega)
    obtain ⟨a', s', l', g1, g2⟩ := Draw_l1 code 0 0 (fun x7 x8 l9 => some (l9, L00Src.mk code x7 x8)) v1.toNat N a1 s1 [] (by omega) ⟨by simp, fun i hi => by simp at hi⟩ (by simp; omega) (by omega) (by omega)
    rw [show ((v1.toNat : Nat) : Int) = v1 by omega] at g1
    simp only [s_A2Drills, e0, s_l21Draw, withK_eq, e1, Option.bind_some, g1]
    exact ⟨_, rfl, g2⟩
  obtain ⟨z, x2, z0, z1⟩ : ∃ z, w_a2At more 0 70 = some z ∧ 0 ≤ z ∧ z < 70 := by
    unfold w_a2At
    rw [orO_some, Option.bind_some]
    cases c : (decide ((0 : Int) ≥ (more.length : Int)) || decide ((70 : Int) < 1))
    · have : ¬ (0 : Int) ≥ (more.length : Int) := by
        rw [Bool.or_eq_false_iff, decide_eq_false_iff_not] at c
        exact c.1
      have hc := (more[0]'(by omega)).toNat_lt
      obtain ⟨q, q1, q2, q3⟩ := remO_ok ((more[0]'(by omega)).toNat : Int) 70 (by omega) (by omega)
      have hx : idx more 0 = some (more[0]'(by omega)) := by rw [idx_int more 0 (by omega) (by omega)]; rfl
      rw [cond_false, hx, Option.bind_some, q1]
      exact ⟨q, rfl, q2, q3⟩
    · exact ⟨0, rfl, by omega, by omega⟩
  rw [x1, x2]
  simp only [Option.bind_some, withK_eq]
  have := w_l1 l hl z z0 z1 (some true) l.length 0 N (by omega) (by have := hl.1; omega)
  rw [show ((0 : Nat) : Int) = 0 from rfl, List.take_zero] at this
  exact this
end Go.Proofs.YtoojddajhalimaaDoor
