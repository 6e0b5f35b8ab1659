/-
  Plain lemmas on these functions. No conditions but those that each states.
-/
import Derived.Test.YtlmpbacboapkaaaFnLayoutsP8
namespace Go.Proofs.Ytlmpbacboapkaaa
set_option linter.unusedVariables false
set_option linter.unusedSimpArgs false
/-! Mirrored rows. -/
theorem im_l2 (rows : List Str) (r : Nat) (w : Str) (hi : idx rows (r : Int) = some w) (hw : w.length ≤ 500) (kj : List UInt8 → Option (Layout × Int)) : ∀ (j N : Nat) (acc : Str), j ≤ w.length → j < N → acc.length + j ≤ 1000 → i_MirrorLayout_l2 kj w N acc ((j : Int) - 1) = kj (acc ++ (w.take j).reverse) ∧ s_MirrorLayout_l2 kj (Layout.mk rows) (r : Int) N acc ((j : Int) - 1) = kj (acc ++ (w.take j).reverse) := by
  intro j
  induction j with
  | zero =>
    intro N acc hj hN ha
    obtain ⟨N, rfl⟩ := pos_fuel hN
    rw [i_MirrorLayout_l2, s_MirrorLayout_l2, decide_eq_false (by omega : ¬ ((0 : Nat) : Int) - 1 ≥ 0), cond_false, cond_false]
    simp
  | succ j ih =>
    intro N acc hj hN ha
    obtain ⟨N, rfl⟩ := pos_fuel hN
    have e : (((j + 1 : Nat) : Int) - 1) = (j : Int) := by omega
    obtain ⟨g1, g2⟩ := ih N (acc ++ [w[j]]) (by omega) (by omega) (by simp; omega)
    have hr : acc ++ [w[j]] ++ (w.take j).reverse = acc ++ (w.take (j + 1)).reverse := by
      rw [List.take_succ_eq_append_getElem (by omega), List.reverse_append]; simp
    rw [hr] at g1 g2
    constructor
    · rw [e, i_MirrorLayout_l2, decide_eq_true (by omega : (j : Int) ≥ 0), cond_true, idx_lt w j (by omega), Option.bind_some, app_some _ _ (by unfold LIM; simp; omega), Option.bind_some, w64_id (x := (j : Int) - 1) (by omega) (by omega), g1]
    · rw [e, s_MirrorLayout_l2, decide_eq_true (by omega : (j : Int) ≥ 0), cond_true, hi, Option.bind_some, idx_lt w j (by omega), Option.bind_some, app_some _ _ (by unfold LIM; simp; omega), Option.bind_some, w64_id (x := (j : Int) - 1) (by omega) (by omega), g2]
theorem im_l1 (rows : List Str) (hr : rows.length ≤ 10) (hw : ∀ w ∈ rows, w.length ≤ 100) (kj : List Str → Option (Layout × Int)) : ∀ (q x N : Nat) (acc : List Str), x + q = rows.length → q + 200 < N → acc.length ≤ x → i_MirrorLayout_l1 kj (Layout.mk rows) N acc (x : Int) = kj (acc ++ (rows.drop x).map List.reverse) ∧ s_MirrorLayout_l1 kj (Layout.mk rows) N acc (x : Int) = kj (acc ++ (rows.drop x).map List.reverse) := by
  intro q
  induction q with
  | zero =>
    intro x N acc hx hN ha
    obtain ⟨N, rfl⟩ := pos_fuel (show 0 < N by omega)
    rw [i_MirrorLayout_l1, s_MirrorLayout_l1, decide_eq_false (by show ¬ (x : Int) < (rows.length : Int); omega), cond_false, cond_false, List.drop_eq_nil_of_le (by omega)]
    simp
  | succ q ih =>
    intro x N acc hx hN ha
    obtain ⟨N, rfl⟩ := pos_fuel (show 0 < N by omega)
    have hlt : x < rows.length := by omega
    have hwl := hw _ (List.getElem_mem hlt)
    obtain ⟨g1, g2⟩ := ih (x + 1) N (acc ++ [rows[x].reverse]) (by omega) (by omega) (by simp; omega)
    have hl2 := fun kj => im_l2 rows x rows[x] (idx_lt rows x hlt) (by omega) kj rows[x].length N [] (Nat.le_refl _) (by omega) (by simp; omega)
    rw [List.take_length, List.nil_append] at hl2
    rw [List.drop_eq_getElem_cons hlt, List.map_cons]
    constructor
    · rw [i_MirrorLayout_l1, decide_eq_true (by show (x : Int) < (rows.length : Int); omega), cond_true]
      simp only [withK_n]
      rw [idx_lt rows x hlt, Option.bind_some, w64_id (x := (rows[x].length : Int) - 1) (by omega) (by omega), (hl2 _).1, app_some _ _ (by unfold LIM; simp; omega), Option.bind_some, w64_nat x (by omega), g1, List.append_assoc, List.singleton_append]
    · rw [s_MirrorLayout_l1, decide_eq_true (by show (x : Int) < (rows.length : Int); omega), cond_true]
      simp only [withK_n]
      rw [idx_lt rows x hlt, Option.bind_some, w64_id (x := (rows[x].length : Int) - 1) (by omega) (by omega), (hl2 _).2, app_some _ _ (by unfold LIM; simp; omega), Option.bind_some, w64_nat x (by omega), g2, List.append_assoc, List.singleton_append]
def mir (rows : List Str) : List Str := rows.map List.reverse
theorem mirror_ok (rows : List Str) (hr : rows.length ≤ 10) (hw : ∀ w ∈ rows, w.length ≤ 100) (N : Nat) (hN : 3000 < N) : i_MirrorLayout N (Layout.mk rows) = some (bif VL rows then (Layout.mk (mir rows), 0) else (Layout.mk [], 1)) ∧ s_MirrorLayout N (Layout.mk rows) = some (bif VL rows then (Layout.mk (mir rows), 0) else (Layout.mk [], 1)) := by
  have h := fun kj => im_l1 rows hr hw kj rows.length 0 N [] (by omega) (by omega) (Nat.le_refl _)
  rw [show ((0 : Nat) : Int) = 0 from rfl, List.drop_zero, List.nil_append] at h
  unfold i_MirrorLayout s_MirrorLayout
  constructor
  · show (i_ValidLayout N (Layout.mk rows)).bind _ = _
    rw [ivalid rows hr hw N (by omega), Option.bind_some]
    cases VL rows with
    | false => rfl
    | true => rw [Bool.not_true, cond_false, withK_n, (h _).1]; rfl
  · show (s_l06Ok N (Layout.mk rows)).bind _ = _
    rw [svalid rows hr hw N (by omega), Option.bind_some]
    cases VL rows with
    | false => rfl
    | true => rw [Bool.not_true, cond_false, withK_n, (h _).2]; rfl
/-! shares -/
def isum : List Int → Int
  | [] => 0
  | x :: r => x + isum r
theorem isum_set : ∀ (l : List Int) (i : Nat) (h : i < l.length), isum (l.set i (l[i] + 1)) = isum l + 1
  | x :: r, 0, _ => by simp only [List.set_cons_zero, List.getElem_cons_zero, isum]; omega
  | x :: r, i + 1, h => by
    have := isum_set r i (by simpa using h)
    simp only [List.set_cons_succ, List.getElem_cons_succ, isum, this]; omega
theorem isum_rep : ∀ n : Nat, isum (List.replicate n 0) = 0
  | 0 => rfl
  | n + 1 => by rw [List.replicate_succ, isum, isum_rep n]; rfl
theorem fo_mem (c : UInt8) (rows : List Str) : (c ∈ rows.flatten → ∃ i k w, fo c rows 0 = some (i, k) ∧ i < rows.length ∧ rows[i]? = some w ∧ w[k]? = some c) ∧ (c ∉ rows.flatten → fo c rows 0 = none) := by
  refine ⟨fun h => ?_, fo_none c rows 0⟩
  obtain ⟨i, k, w, h1, _, h3, h4, h5⟩ := fo_in c rows [] 0 h
  rw [List.append_nil] at h1 h4
  exact ⟨i, k, w, h1, by omega, by simpa using h4, h5⟩
theorem sh_l1 (rows : List Str) (hr : rows.length ≤ 10) (hw : ∀ w ∈ rows, w.length ≤ 100) (text : Str) (ht : text.length ≤ 300) : ∀ (q x N : Nat) (l : List Int), x + q = text.length → q + 400 < N → l.length = rows.length → (∀ v ∈ l, 0 ≤ v ∧ v ≤ x) → ∃ r, i_RowShares_l1 (fun l15 => some (l15, 0)) (Layout.mk rows) text N l (x : Int) = some r ∧ s_RowShares_l1 (fun l15 => some (l15, 0)) (Layout.mk rows) text N l (x : Int) = some r ∧ (r.2 = 0 → isum r.1 = isum l + q) ∧ r.1.length ≤ 10 ∧ ∀ v ∈ r.1, 0 ≤ v ∧ v ≤ 300 := by
  intro q
  induction q with
  | zero =>
    intro x N l hx hN hl hv
    obtain ⟨N, rfl⟩ := pos_fuel (show 0 < N by omega)
    rw [i_RowShares_l1, s_RowShares_l1, decide_eq_false (by omega : ¬ (x : Int) < (text.length : Int)), cond_false, cond_false]
    exact ⟨_, rfl, rfl, fun _ => by simp, by show l.length ≤ 10; omega, fun v hv' => by have := hv v hv'; omega⟩
  | succ q ih =>
    intro x N l hx hN hl hv
    obtain ⟨N, rfl⟩ := pos_fuel (show 0 < N by omega)
    have hlt : x < text.length := by omega
    rw [i_RowShares_l1, s_RowShares_l1, decide_eq_true (by omega : (x : Int) < (text.length : Int)), cond_true, cond_true, idx_lt text x hlt, Option.bind_some, Option.bind_some]
    rw [show i_Layout_spot N (Layout.mk (Layout.mk rows).rows) text[x] = some (spI (fo text[x] rows 0)) from ispot rows hr hw _ N (by omega), show s_l06At N (Layout.mk rows).rows text[x] = some (spS (fo text[x] rows 0)) from sat rows hr hw _ N (by omega), Option.bind_some, Option.bind_some]
    by_cases hm : text[x] ∈ rows.flatten
    · obtain ⟨i, k, w, h1, h2, _⟩ := (fo_mem text[x] rows).1 hm
      have hil : i < l.length := by omega
      have hvi := hv _ (List.getElem_mem hil)
      have e1 : decide ((spS (some (i, k))).1 < 0) = false := decide_eq_false (by show ¬ (i : Int) < 0; omega)
      have e2 : idx l (spI (some (i, k))).1 = some l[i] := idx_lt l i hil
      have e3 : idx l (spS (some (i, k))).1 = some l[i] := idx_lt l i hil
      have e4 : (spI (some (i, k))).1.toNat = i := Int.toNat_natCast i
      have e5 : (spS (some (i, k))).1.toNat = i := Int.toNat_natCast i
      rw [h1, e1, e2, e3, e4, e5, show (spI (some (i, k))).2.2 = true from rfl, Bool.not_true, cond_false, cond_false, Option.bind_some, Option.bind_some, Option.bind_some, Option.bind_some, w64_id (x := l[i] + 1) (by omega) (by omega), w64_nat x (by omega)]
      obtain ⟨r, r1, r2, r3, r4⟩ := ih (x + 1) N (l.set i (l[i] + 1)) (by omega) (by omega) (by simpa using hl) (fun v hv' => by
        rcases List.mem_or_eq_of_mem_set hv' with g | rfl
        · have := hv v g; omega
        · omega)
      exact ⟨r, r1, r2, fun h0 => by rw [r3 h0, isum_set l i hil]; omega, r4⟩
    · rw [(fo_mem text[x] rows).2 hm]
      exact ⟨([], 3), rfl, rfl, fun h => absurd h (by decide), by simp, fun v hv' => by cases hv'⟩
theorem shares_ok (rows : List Str) (hr : rows.length ≤ 10) (hw : ∀ w ∈ rows, w.length ≤ 100) (text : Str) (ht : text.length ≤ 300) (N : Nat) (hN : 3000 < N) : ∃ r, i_RowShares N (Layout.mk rows) text = some r ∧ s_RowShares N (Layout.mk rows) text = some r ∧ (r.2 = 0 → isum r.1 = text.length) ∧ r.1.length ≤ 10 ∧ ∀ v ∈ r.1, 0 ≤ v ∧ v ≤ 300 := by
  have hm : mk (rows.length : Int) (0 : Int) = some (List.replicate rows.length 0) := mk_some _ 0 (by unfold LIM; omega)
  have e1 : i_isText N text 33 100 = some (decide ((text.length : Int) ≤ 100) && isT text 33) := i_text text 33 100 (by omega) N (by omega)
  have e2 := s_text text (by omega) N (by omega)
  rw [Bool.and_comm] at e2
  obtain ⟨r, r1, r2, r3, r4⟩ := sh_l1 rows hr hw text ht text.length 0 N (List.replicate rows.length 0) (by omega) (by omega) (by simp) (fun v hv => by rw [(List.mem_replicate.1 hv).2]; omega)
  rw [show ((0 : Nat) : Int) = 0 from rfl] at r1 r2
  unfold i_RowShares s_RowShares
  rw [show i_ValidLayout N (Layout.mk (Layout.mk rows).rows) = some (VL rows) from ivalid rows hr hw N (by omega), show s_l06Ok N (Layout.mk (Layout.mk rows).rows) = some (VL rows) from svalid rows hr hw N (by omega), Option.bind_some, Option.bind_some]
  cases VL rows with
  | false => exact ⟨([], 1), rfl, rfl, fun h => absurd h (by decide), by simp, fun v hv' => by cases hv'⟩
  | true =>
    rw [Bool.not_true, cond_false, cond_false, e1, e2, Option.bind_some, Option.bind_some]
    cases (decide ((text.length : Int) ≤ 100) && isT text 33) with
    | false => exact ⟨([], 2), rfl, rfl, fun h => absurd h (by decide), by simp, fun v hv' => by cases hv'⟩
    | true =>
      rw [Bool.not_true, cond_false, cond_false, show mk ((Layout.mk rows).rows.length : Int) (0 : Int) = some (List.replicate rows.length 0) from hm, Option.bind_some, Option.bind_some, withK_n, withK_n]
      exact ⟨r, r1, r2, fun h => by rw [r3 h, isum_rep]; omega, r4⟩
/-! the text -/
theorem joinTail_cons (sep x : Str) (r : List Str) : Lib.joinTail sep (x :: r) = sep ++ x ++ Lib.joinTail sep r := by simp [Lib.joinTail]
theorem tx_l1 (rows : List Str) (hr : rows.length ≤ 10) (hw : ∀ w ∈ rows, w.length ≤ 100) (kj : Str → Option Str) : ∀ (q x N : Nat) (out : Str), x + q = rows.length → q < N → 0 < x → out.length ≤ 101 * x → s_l06Text_l1 kj (Layout.mk rows) N out (x : Int) = kj (out ++ Lib.joinTail [47] (rows.drop x)) := by
  intro q
  induction q with
  | zero =>
    intro x N out hx hN h0 ho
    obtain ⟨N, rfl⟩ := pos_fuel hN
    rw [s_l06Text_l1, decide_eq_false (by show ¬ (x : Int) < (rows.length : Int); omega), cond_false, List.drop_eq_nil_of_le (by omega)]
    simp [Lib.joinTail]
  | succ q ih =>
    intro x N out hx hN h0 ho
    obtain ⟨N, rfl⟩ := pos_fuel hN
    have hlt : x < rows.length := by omega
    have hwl := hw _ (List.getElem_mem hlt)
    rw [s_l06Text_l1, decide_eq_true (by show (x : Int) < (rows.length : Int); omega), cond_true]
    simp only [withK_n]
    rw [decide_eq_true (by omega : (x : Int) > 0), cond_true, cat_some _ _ (by unfold LIM; simp; omega), Option.bind_some, idx_lt rows x hlt, Option.bind_some, cat_some _ _ (by unfold LIM; simp; omega), Option.bind_some, w64_nat x (by omega), ih (x + 1) N _ (by omega) (by omega) (by omega) (by simp; omega), List.drop_eq_getElem_cons hlt, joinTail_cons]
    simp
theorem stext (rows : List Str) (hr : rows.length ≤ 10) (hw : ∀ w ∈ rows, w.length ≤ 100) (N : Nat) (hN : 100 < N) : s_l06Text N (Layout.mk rows) = some (Lib.join rows [47]) := by
  obtain ⟨M, rfl⟩ : ∃ M, N = M + 1 := ⟨N - 1, by omega⟩
  unfold s_l06Text
  rw [withK_n]
  cases rows with
  | nil => rw [s_l06Text_l1]; rfl
  | cons w0 r =>
    have hwl := hw w0 List.mem_cons_self
    have hl : (w0 :: r).length = r.length + 1 := rfl
    have h0 : idx (w0 :: r) 0 = some w0 := rfl
    rw [s_l06Text_l1, decide_eq_true (by show (0 : Int) < ((w0 :: r).length : Int); omega), cond_true]
    simp only [withK_n]
    rw [show decide ((0 : Int) > 0) = false from rfl, cond_false, h0, Option.bind_some, cat_some _ _ (by unfold LIM; simp; omega), Option.bind_some, show w64 ((0 : Int) + 1) = ((1 : Nat) : Int) from rfl, List.nil_append, tx_l1 (w0 :: r) hr hw _ r.length 1 M w0 (by omega) (by omega) (by omega) (by omega), Lib.join_cons]
    rfl
theorem join_le : ∀ (r : List Str) (sep : Str), (∀ w ∈ r, w.length ≤ 100) → (Lib.joinTail sep r).length ≤ (100 + sep.length) * r.length
  | [], _, _ => by simp [Lib.joinTail]
  | x :: r, sep, h => by
    have h1 := h x List.mem_cons_self
    have h2 := join_le r sep fun w hw => h w (List.mem_cons_of_mem _ hw)
    rw [joinTail_cons, List.length_append, List.length_append, List.length_cons, Nat.mul_add]
    omega
theorem join_len (rows : List Str) (hr : rows.length ≤ 10) (hw : ∀ w ∈ rows, w.length ≤ 100) : (Lib.join rows [47]).length ≤ 2000 := by
  cases rows with
  | nil => simp [Lib.join_nil]
  | cons w0 r =>
    have h1 := hw w0 List.mem_cons_self
    have h2 := join_le r [47] fun w h => hw w (List.mem_cons_of_mem _ h)
    rw [Lib.join_cons, List.length_append]
    simp only [List.length_cons, List.length_nil] at hr h2
    omega
theorem ltext (rows : List Str) (hr : rows.length ≤ 10) (hw : ∀ w ∈ rows, w.length ≤ 100) (N : Nat) (hN : 3000 < N) : i_LayoutText N (Layout.mk rows) = some (bif VL rows then Lib.join rows [47] else []) ∧ s_LayoutText N (Layout.mk rows) = some (bif VL rows then Lib.join rows [47] else []) := by
  have hj := join_len rows hr hw
  have hJ : joinO rows [47] = some (Lib.join rows [47]) := by
    unfold joinO
    rw [if_pos ⟨by unfold LIM; omega, by unfold LIM; omega⟩]
  unfold i_LayoutText s_LayoutText
  rw [show i_ValidLayout N (Layout.mk (Layout.mk rows).rows) = some (VL rows) from ivalid rows hr hw N (by omega), show s_l06Ok N (Layout.mk (Layout.mk rows).rows) = some (VL rows) from svalid rows hr hw N (by omega), Option.bind_some, Option.bind_some]
  cases VL rows with
  | false => exact ⟨rfl, rfl⟩
  | true =>
    rw [Bool.not_true, cond_false, cond_false, show joinO (Layout.mk rows).rows [47] = some (Lib.join rows [47]) from hJ, show s_l06Text N (Layout.mk (Layout.mk rows).rows) = some (Lib.join rows [47]) from stext rows hr hw N (by omega)]
    exact ⟨rfl, rfl⟩
end Go.Proofs.Ytlmpbacboapkaaa
