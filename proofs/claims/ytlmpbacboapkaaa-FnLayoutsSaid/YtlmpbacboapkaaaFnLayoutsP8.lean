/-
  Plain lemmas on these functions. No conditions but those that each states.
-/
import Derived.Test.YtlmpbacboapkaaaFnLayoutsP7
namespace Go.Proofs.Ytlmpbacboapkaaa
set_option linter.unusedVariables false
set_option linter.unusedSimpArgs false
/-! The other side; loops over rows. -/
theorem sr_l1 (s : Str) (hs : s.length ≤ 500) (kj : Option Bool) : ∀ (q x N : Nat), x + q = s.length → q < N → s_l06Row_l1 kj s N (x : Int) = (bif (s.drop x).all (fun c => isL [c] && !(c == 47)) then kj else some false) := by
  intro q
  induction q with
  | zero =>
    intro x N hx hN
    obtain ⟨N, rfl⟩ := pos_fuel hN
    rw [s_l06Row_l1, decide_eq_false (by omega : ¬ (x : Int) < (s.length : Int)), cond_false, List.drop_eq_nil_of_le (by omega)]
    rfl
  | succ q ih =>
    intro x N hx hN
    obtain ⟨N, rfl⟩ := pos_fuel hN
    have hlt : x < s.length := by omega
    rw [s_l06Row_l1, decide_eq_true (by omega : (x : Int) < (s.length : Int)), cond_true, w64_nat x (by omega), sub1 s x hlt, Option.bind_some, s_letter, Option.bind_some, idx_lt s x hlt, Option.bind_some, orO_some, Option.bind_some, ih (x + 1) N (by omega) (by omega), List.drop_eq_getElem_cons hlt, List.all_cons]
    cases isL [s[x]] with
    | false => rfl
    | true =>
      cases (s[x] == 47) <;> rfl
theorem srow (s : Str) (hs : s.length ≤ 500) (N : Nat) (hN : 600 < N) : s_l06Row N s = some (rs s) := by
  have := fun kj => sr_l1 s hs kj s.length 0 N (by omega) (by omega)
  rw [show ((0 : Nat) : Int) = 0 from rfl, List.drop_zero] at this
  unfold s_l06Row s_l00In
  rw [withK_n, this, andO_some, Option.bind_some, Option.bind_some]
  have e : (decide ((s.length : Int) ≥ 1) && decide ((s.length : Int) ≤ 12)) = decide (1 ≤ s.length ∧ s.length ≤ 12) := by
    rw [Bool.eq_iff_iff, Bool.and_eq_true, decide_eq_true_eq, decide_eq_true_eq, decide_eq_true_eq]; omega
  rw [e]
  unfold rs
  cases (s.all fun c => isL [c] && !(c == 47)) <;> rfl
def spI : Option (Nat × Nat) → Int × Int × Bool
  | some (i, k) => ((i : Int), (k : Int), true)
  | none => (0, 0, false)
def spS : Option (Nat × Nat) → Int × Int
  | some (i, k) => ((i : Int), (k : Int))
  | none => (-1, -1)
theorem is_l2 (w : Str) (hw : w.length ≤ 500) (c : UInt8) (x : Int) (kj : Option (Int × Int × Bool)) : ∀ (q y N : Nat), y + q = w.length → q < N → i_Layout_spot_l2 kj c x w N (y : Int) = (match fc c (w.drop y) y with | some k => some (x, (k : Int), true) | none => kj) := by
  intro q
  induction q with
  | zero =>
    intro y N hy hN
    obtain ⟨N, rfl⟩ := pos_fuel hN
    rw [i_Layout_spot_l2, decide_eq_false (by omega : ¬ (y : Int) < (w.length : Int)), cond_false, List.drop_eq_nil_of_le (by omega)]
    rfl
  | succ q ih =>
    intro y N hy hN
    obtain ⟨N, rfl⟩ := pos_fuel hN
    have hlt : y < w.length := by omega
    rw [i_Layout_spot_l2, decide_eq_true (by omega : (y : Int) < (w.length : Int)), cond_true, idx_lt w y hlt, Option.bind_some, w64_nat y (by omega), ih (y + 1) N (by omega) (by omega), List.drop_eq_getElem_cons hlt, fc]
    by_cases h : w[y] = c
    · rw [beq_iff_eq.2 h, cond_true, if_pos h]
    · rw [beq_eq_false_iff_ne.2 h, cond_false, if_neg h]
theorem is_l1 (rows : List Str) (hr : rows.length ≤ 10) (hw : ∀ w ∈ rows, w.length ≤ 100) (c : UInt8) : ∀ (q x N : Nat), x + q = rows.length → q + 200 < N → i_Layout_spot_l1 (some (0, 0, false)) (Layout.mk rows) c N (x : Int) = some (spI (fo c (rows.drop x) x)) := by
  intro q
  induction q with
  | zero =>
    intro x N hx hN
    obtain ⟨N, rfl⟩ := pos_fuel (show 0 < N by omega)
    rw [i_Layout_spot_l1, decide_eq_false (by show ¬ (x : Int) < (rows.length : Int); omega), cond_false, List.drop_eq_nil_of_le (by omega)]
    rfl
  | succ q ih =>
    intro x N hx hN
    obtain ⟨N, rfl⟩ := pos_fuel (show 0 < N by omega)
    have hlt : x < rows.length := by omega
    have hwl := hw _ (List.getElem_mem hlt)
    rw [i_Layout_spot_l1, decide_eq_true (by show (x : Int) < (rows.length : Int); omega), cond_true]
    simp only [withK_n]
    rw [idx_lt rows x hlt, Option.bind_some, w64_nat x (by omega), ih (x + 1) N (by omega) (by omega), List.drop_eq_getElem_cons hlt, fo]
    have := is_l2 rows[x] (by omega) c (x : Int) (some (spI (fo c (rows.drop (x + 1)) (x + 1)))) rows[x].length 0 N (by omega) (by omega)
    rw [show ((0 : Nat) : Int) = 0 from rfl, List.drop_zero] at this
    rw [this]
    cases fc c rows[x] 0 <;> rfl
theorem ispot (rows : List Str) (hr : rows.length ≤ 10) (hw : ∀ w ∈ rows, w.length ≤ 100) (c : UInt8) (N : Nat) (hN : 300 < N) : i_Layout_spot N (Layout.mk rows) c = some (spI (fo c rows 0)) := by
  unfold i_Layout_spot
  rw [withK_n]
  exact is_l1 rows hr hw c rows.length 0 N (by omega) (by omega)
theorem sa_l2 (rows : List Str) (x : Nat) (w : Str) (hx : idx rows (x : Int) = some w) (hw : w.length ≤ 500) (c : UInt8) (kj : Option (Int × Int)) : ∀ (q y N : Nat), y + q = w.length → q < N → s_l06At_l2 kj rows c (x : Int) N (y : Int) = (match fc c (w.drop y) y with | some k => some ((x : Int), (k : Int)) | none => kj) := by
  intro q
  induction q with
  | zero =>
    intro y N hy hN
    obtain ⟨N, rfl⟩ := pos_fuel hN
    rw [s_l06At_l2, hx, Option.bind_some, decide_eq_false (by omega : ¬ (y : Int) < (w.length : Int)), cond_false, List.drop_eq_nil_of_le (by omega)]
    rfl
  | succ q ih =>
    intro y N hy hN
    obtain ⟨N, rfl⟩ := pos_fuel hN
    have hlt : y < w.length := by omega
    rw [s_l06At_l2, hx, Option.bind_some, decide_eq_true (by omega : (y : Int) < (w.length : Int)), cond_true, Option.bind_some, idx_lt w y hlt, Option.bind_some, w64_nat y (by omega), ih (y + 1) N (by omega) (by omega), List.drop_eq_getElem_cons hlt, fc]
    by_cases h : w[y] = c
    · rw [beq_iff_eq.2 h, cond_true, if_pos h]
    · rw [beq_eq_false_iff_ne.2 h, cond_false, if_neg h]
theorem sa_l1 (rows : List Str) (hr : rows.length ≤ 10) (hw : ∀ w ∈ rows, w.length ≤ 100) (c : UInt8) : ∀ (q x N : Nat), x + q = rows.length → q + 200 < N → s_l06At_l1 (some ((-1), (-1))) rows c N (x : Int) = some (spS (fo c (rows.drop x) x)) := by
  intro q
  induction q with
  | zero =>
    intro x N hx hN
    obtain ⟨N, rfl⟩ := pos_fuel (show 0 < N by omega)
    rw [s_l06At_l1, decide_eq_false (by omega : ¬ (x : Int) < (rows.length : Int)), cond_false, List.drop_eq_nil_of_le (by omega)]
    rfl
  | succ q ih =>
    intro x N hx hN
    obtain ⟨N, rfl⟩ := pos_fuel (show 0 < N by omega)
    have hlt : x < rows.length := by omega
    have hwl := hw _ (List.getElem_mem hlt)
    rw [s_l06At_l1, decide_eq_true (by omega : (x : Int) < (rows.length : Int)), cond_true]
    simp only [withK_n]
    rw [w64_nat x (by omega), ih (x + 1) N (by omega) (by omega), List.drop_eq_getElem_cons hlt, fo]
    have := sa_l2 rows x rows[x] (idx_lt rows x hlt) (by omega) c (some (spS (fo c (rows.drop (x + 1)) (x + 1)))) rows[x].length 0 N (by omega) (by omega)
    rw [show ((0 : Nat) : Int) = 0 from rfl, List.drop_zero] at this
    rw [this]
    cases fc c rows[x] 0 <;> rfl
theorem sat (rows : List Str) (hr : rows.length ≤ 10) (hw : ∀ w ∈ rows, w.length ≤ 100) (c : UInt8) (N : Nat) (hN : 300 < N) : s_l06At N rows c = some (spS (fo c rows 0)) := by
  unfold s_l06At
  rw [withK_n]
  exact sa_l1 rows hr hw c rows.length 0 N (by omega) (by omega)
theorem so_l2 (rows : List Str) (hr : rows.length ≤ 10) (hw : ∀ w ∈ rows, w.length ≤ 100) (x : Nat) (hx : x < rows.length) (kj : Option Bool) : ∀ (q y N : Nat), y + q = (rows[x]).length → q + 400 < N → s_l06Ok_l2 kj (Layout.mk rows) (x : Int) N (y : Int) = (bif vq ((rows.take x).flatten ++ (rows[x]).take y) ((rows[x]).drop y) then kj else some false) := by
  have hwl := hw _ (List.getElem_mem hx)
  have hix := idx_lt rows x hx
  have hrow : rows = rows.take x ++ rows[x] :: rows.drop (x + 1) := by
    conv => lhs; rw [← List.take_append_drop x rows, List.drop_eq_getElem_cons hx]
  generalize hwe : rows[x] = w at *
  intro q
  induction q with
  | zero =>
    intro y N hy hN
    obtain ⟨N, rfl⟩ := pos_fuel (show 0 < N by omega)
    rw [s_l06Ok_l2, hix, Option.bind_some, decide_eq_false (by omega : ¬ (y : Int) < (w.length : Int)), cond_false, List.drop_eq_nil_of_le (by omega)]
    rfl
  | succ q ih =>
    intro y N hy hN
    obtain ⟨N, rfl⟩ := pos_fuel (show 0 < N by omega)
    have hlt : y < w.length := by omega
    have hwd : w = w.take y ++ w[y] :: w.drop (y + 1) := by
      conv => lhs; rw [← List.take_append_drop y w, List.drop_eq_getElem_cons hlt]
    have htk : (rows.take x).flatten ++ w.take (y + 1) = ((rows.take x).flatten ++ w.take y) ++ [w[y]] := by rw [List.take_succ_eq_append_getElem hlt, List.append_assoc]
    obtain ⟨i, k, f1, f2⟩ := fo_at w[y] (rows.take x) (rows.drop (x + 1)) (w.take y) (w.drop (y + 1))
    rw [← hwd, ← hrow] at f1
    have hl1 : (rows.take x).length = x := by rw [List.length_take]; omega
    have hl2 : (w.take y).length = y := by rw [List.length_take]; omega
    rw [hl1, hl2] at f2
    rw [s_l06Ok_l2, hix, Option.bind_some, decide_eq_true (by omega : (y : Int) < (w.length : Int)), cond_true, Option.bind_some, idx_lt w y hlt, Option.bind_some]
    rw [show s_l06At N (Layout.mk rows).rows w[y] = some (spS (fo w[y] rows 0)) from sat rows hr hw _ N (by omega), f1, Option.bind_some, orO_some, Option.bind_some, w64_nat y (by omega), ih (y + 1) N (by omega) (by omega), List.drop_eq_getElem_cons hlt, vq, htk]
    have e : (((spS (some (i, k))).1 != (x : Int)) || ((spS (some (i, k))).2 != (y : Int))) = decide (w[y] ∈ (rows.take x).flatten ++ w.take y) := by
      rw [Bool.eq_iff_iff, Bool.or_eq_true, bne_iff_ne, bne_iff_ne, decide_eq_true_eq, List.mem_append]
      show ((i : Int) ≠ x ∨ (k : Int) ≠ y) ↔ _
      constructor
      · intro g
        by_cases a : w[y] ∈ (rows.take x).flatten
        · exact .inl a
        · by_cases b : w[y] ∈ w.take y
          · exact .inr b
          · have := f2.2 ⟨a, b⟩; omega
      · intro g
        by_cases a : i = x ∧ k = y
        · have := f2.1 a
          rcases g with g | g
          · exact absurd g this.1
          · exact absurd g this.2
        · omega
    rw [e]
    cases decide (w[y] ∈ (rows.take x).flatten ++ w.take y) <;> rfl
theorem so_l1 (rows : List Str) (hr : rows.length ≤ 10) (hw : ∀ w ∈ rows, w.length ≤ 100) (b : Bool) : ∀ (q x N : Nat), x + q = rows.length → q + 800 < N → s_l06Ok_l1 (some b) (Layout.mk rows) N (x : Int) = some (vls (rows.take x).flatten (rows.drop x) && b) := by
  intro q
  induction q with
  | zero =>
    intro x N hx hN
    obtain ⟨N, rfl⟩ := pos_fuel (show 0 < N by omega)
    rw [s_l06Ok_l1, decide_eq_false (by show ¬ (x : Int) < (rows.length : Int); omega), cond_false, List.drop_eq_nil_of_le (by omega)]
    rfl
  | succ q ih =>
    intro x N hx hN
    obtain ⟨N, rfl⟩ := pos_fuel (show 0 < N by omega)
    have hlt : x < rows.length := by omega
    have hwl := hw _ (List.getElem_mem hlt)
    have htk : (rows.take (x + 1)).flatten = (rows.take x).flatten ++ rows[x] := by rw [List.take_succ_eq_append_getElem hlt, List.flatten_append, List.flatten_singleton]
    rw [s_l06Ok_l1, decide_eq_true (by show (x : Int) < (rows.length : Int); omega), cond_true]
    simp only [withK_n]
    rw [idx_lt rows x hlt, Option.bind_some, srow rows[x] (by omega) N (by omega), Option.bind_some, w64_nat x (by omega), ih (x + 1) N (by omega) (by omega), List.drop_eq_getElem_cons hlt, vls, ro_rs, ← htk]
    have := so_l2 rows hr hw x hlt (some (vls (rows.take (x + 1)).flatten (rows.drop (x + 1)) && b)) rows[x].length 0 N (by omega) (by omega)
    rw [show ((0 : Nat) : Int) = 0 from rfl, List.drop_zero, List.take_zero, List.append_nil] at this
    rw [this]
    cases rs rows[x] with
    | false => rfl
    | true => cases vq (rows.take x).flatten rows[x] <;> rfl
theorem svalid (rows : List Str) (hr : rows.length ≤ 10) (hw : ∀ w ∈ rows, w.length ≤ 100) (N : Nat) (hN : 2000 < N) : s_l06Ok N (Layout.mk rows) = some (VL rows) := by
  have := fun b => so_l1 rows hr hw b rows.length 0 N (by omega) (by omega)
  rw [show ((0 : Nat) : Int) = 0 from rfl] at this
  simp only [List.take_zero, List.flatten_nil, List.drop_zero] at this
  unfold s_l06Ok s_l00In
  rw [withK_n, andO_some, Option.bind_some, Option.bind_some, this]
  have e : (decide (((Layout.mk rows).rows.length : Int) ≥ 1) && decide (((Layout.mk rows).rows.length : Int) ≤ 4)) = decide (1 ≤ rows.length ∧ rows.length ≤ 4) := by
    show (decide ((rows.length : Int) ≥ 1) && decide ((rows.length : Int) ≤ 4)) = _
    rw [Bool.eq_iff_iff, Bool.and_eq_true, decide_eq_true_eq, decide_eq_true_eq, decide_eq_true_eq]; omega
  rw [e, Bool.and_comm]
  rfl
/-! exchanged letters -/
def sw1 (a b c : UInt8) : UInt8 := if c = a then b else if c = b then a else c
theorem ex_idx (f : UInt8 → UInt8) (w : Str) (x : Nat) (hx : x < w.length) : idx ((w.take x).map f ++ w.drop x) (x : Int) = some w[x] := by
  rw [idx_nat, List.getElem?_append_right (by simp; omega), List.length_map, List.length_take, show x - min x w.length = 0 by omega, List.getElem?_drop, Nat.add_zero, List.getElem?_eq_getElem hx]
theorem ex_set (f : UInt8 → UInt8) (w : Str) (x : Nat) (hx : x < w.length) : ((w.take x).map f ++ w.drop x).set x (f w[x]) = (w.take (x + 1)).map f ++ w.drop (x + 1) := by
  rw [List.set_append_right _ _ (by simp; omega), List.length_map, List.length_take, show x - min x w.length = 0 by omega, List.drop_eq_getElem_cons hx, List.set_cons_zero, List.take_succ_eq_append_getElem hx, List.map_append]
  simp
theorem ex_keep (f : UInt8 → UInt8) (w : Str) (x : Nat) (hx : x < w.length) (h : f w[x] = w[x]) : (w.take x).map f ++ w.drop x = (w.take (x + 1)).map f ++ w.drop (x + 1) := by
  rw [List.take_succ_eq_append_getElem hx, List.map_append, List.drop_eq_getElem_cons hx]
  simp [h]
theorem ie_l2 (a b : UInt8) (w : Str) (hw : w.length ≤ 500) (kj : List UInt8 → Option Layout) : ∀ (q x N : Nat), x + q = w.length → q < N → i_Layout_exchanged_l2 kj a b w N ((w.take x).map (sw1 a b) ++ w.drop x) (x : Int) = kj (w.map (sw1 a b)) ∧ s_l06Change_l2 kj a b N ((w.take x).map (sw1 a b) ++ w.drop x) (x : Int) = kj (w.map (sw1 a b)) := by
  intro q
  induction q with
  | zero =>
    intro x N hx hN
    obtain ⟨N, rfl⟩ := pos_fuel hN
    have hl : ((w.take x).map (sw1 a b) ++ w.drop x).length = w.length := by simp; omega
    constructor
    · rw [i_Layout_exchanged_l2, decide_eq_false (by omega : ¬ (x : Int) < (w.length : Int)), cond_false, List.take_of_length_le (by omega), List.drop_eq_nil_of_le (by omega), List.append_nil]
    · rw [s_l06Change_l2, hl, decide_eq_false (by omega : ¬ (x : Int) < (w.length : Int)), cond_false, List.take_of_length_le (by omega), List.drop_eq_nil_of_le (by omega), List.append_nil]
  | succ q ih =>
    intro x N hx hN
    obtain ⟨N, rfl⟩ := pos_fuel hN
    have hlt : x < w.length := by omega
    have hl : ((w.take x).map (sw1 a b) ++ w.drop x).length = w.length := by simp; omega
    obtain ⟨g1, g2⟩ := ih (x + 1) N (by omega) (by omega)
    have hi := ex_idx (sw1 a b) w x hlt
    have hs := ex_set (sw1 a b) w x hlt
    have hk := ex_keep (sw1 a b) w x hlt
    constructor
    · rw [i_Layout_exchanged_l2, decide_eq_true (by omega : (x : Int) < (w.length : Int)), cond_true]
      simp only [withK_n]
      rw [hi, Option.bind_some, Option.bind_some, Option.bind_some, w64_nat x (by omega), Int.toNat_natCast]
      by_cases ha : w[x] = a
      · have : sw1 a b w[x] = b := by unfold sw1; rw [if_pos ha]
        rw [this] at hs
        rw [beq_iff_eq.2 ha, cond_true, hs]; exact g1
      · by_cases hb : w[x] = b
        · have : sw1 a b w[x] = a := by unfold sw1; rw [if_neg ha, if_pos hb]
          rw [this] at hs
          rw [beq_eq_false_iff_ne.2 ha, cond_false, beq_iff_eq.2 hb, cond_true, hs]; exact g1
        · have : sw1 a b w[x] = w[x] := by unfold sw1; rw [if_neg ha, if_neg hb]
          rw [beq_eq_false_iff_ne.2 ha, cond_false, beq_eq_false_iff_ne.2 hb, cond_false, hk this]; exact g1
    · rw [s_l06Change_l2, hl, decide_eq_true (by omega : (x : Int) < (w.length : Int)), cond_true]
      simp only [withK_n]
      rw [hi, Option.bind_some, Option.bind_some, Option.bind_some, w64_nat x (by omega), Int.toNat_natCast]
      by_cases ha : w[x] = a
      · have : sw1 a b w[x] = b := by unfold sw1; rw [if_pos ha]
        rw [this] at hs
        rw [beq_iff_eq.2 ha, cond_true, hs]; exact g2
      · by_cases hb : w[x] = b
        · have : sw1 a b w[x] = a := by unfold sw1; rw [if_neg ha, if_pos hb]
          rw [this] at hs
          rw [beq_eq_false_iff_ne.2 ha, cond_false, beq_iff_eq.2 hb, cond_true, hs]; exact g2
        · have : sw1 a b w[x] = w[x] := by unfold sw1; rw [if_neg ha, if_neg hb]
          rw [beq_eq_false_iff_ne.2 ha, cond_false, beq_eq_false_iff_ne.2 hb, cond_false, hk this]; exact g2
theorem ie_l1 (a b : UInt8) (rows : List Str) (hr : rows.length ≤ 10) (hw : ∀ w ∈ rows, w.length ≤ 100) (kj : List Str → Option Layout) : ∀ (q x N : Nat) (acc : List Str), x + q = rows.length → q + 200 < N → acc.length ≤ x → i_Layout_exchanged_l1 kj (Layout.mk rows) a b N acc (x : Int) = kj (acc ++ (rows.drop x).map fun w => w.map (sw1 a b)) ∧ s_l06Change_l1 kj (Layout.mk rows) a b N acc (x : Int) = kj (acc ++ (rows.drop x).map fun w => w.map (sw1 a b)) := by
  intro q
  induction q with
  | zero =>
    intro x N acc hx hN ha
    obtain ⟨N, rfl⟩ := pos_fuel (show 0 < N by omega)
    rw [i_Layout_exchanged_l1, s_l06Change_l1, decide_eq_false (by show ¬ (x : Int) < (rows.length : Int); omega), cond_false, cond_false, List.drop_eq_nil_of_le (by omega)]
    simp
  | succ q ih =>
    intro x N acc hx hN ha
    obtain ⟨N, rfl⟩ := pos_fuel (show 0 < N by omega)
    have hlt : x < rows.length := by omega
    have hwl := hw _ (List.getElem_mem hlt)
    obtain ⟨g1, g2⟩ := ih (x + 1) N (acc ++ [rows[x].map (sw1 a b)]) (by omega) (by omega) (by simp; omega)
    have hl2 := fun kj => ie_l2 a b rows[x] (by omega) kj rows[x].length 0 N (by omega) (by omega)
    rw [show ((0 : Nat) : Int) = 0 from rfl, List.take_zero, List.map_nil, List.nil_append, List.drop_zero] at hl2
    rw [List.drop_eq_getElem_cons hlt, List.map_cons]
    constructor
    · rw [i_Layout_exchanged_l1, decide_eq_true (by show (x : Int) < (rows.length : Int); omega), cond_true]
      simp only [withK_n]
      rw [idx_lt rows x hlt, Option.bind_some, app_some _ _ (by unfold LIM; simp; omega), Option.bind_some, List.nil_append, (hl2 _).1, app_some _ _ (by unfold LIM; simp; omega), Option.bind_some, w64_nat x (by omega), g1, List.append_assoc, List.singleton_append]
    · rw [s_l06Change_l1, decide_eq_true (by show (x : Int) < (rows.length : Int); omega), cond_true]
      simp only [withK_n]
      rw [idx_lt rows x hlt, Option.bind_some, app_some _ _ (by unfold LIM; simp; omega), Option.bind_some, List.nil_append, (hl2 _).2, app_some _ _ (by unfold LIM; simp; omega), Option.bind_some, w64_nat x (by omega), g2, List.append_assoc, List.singleton_append]
def chg (a b : UInt8) (rows : List Str) : List Str := rows.map fun w => w.map (sw1 a b)
theorem change_ok (a b : UInt8) (rows : List Str) (hr : rows.length ≤ 10) (hw : ∀ w ∈ rows, w.length ≤ 100) (N : Nat) (hN : 300 < N) : i_Layout_exchanged N (Layout.mk rows) a b = some (Layout.mk (chg a b rows)) ∧ s_l06Change N (Layout.mk rows) a b = some (Layout.mk (chg a b rows)) := by
  have h := fun kj => ie_l1 a b rows hr hw kj rows.length 0 N [] (by omega) (by omega) (Nat.le_refl _)
  rw [show ((0 : Nat) : Int) = 0 from rfl, List.drop_zero, List.nil_append] at h
  unfold i_Layout_exchanged s_l06Change
  rw [withK_n, withK_n]
  exact ⟨(h _).1, (h _).2⟩
end Go.Proofs.Ytlmpbacboapkaaa
