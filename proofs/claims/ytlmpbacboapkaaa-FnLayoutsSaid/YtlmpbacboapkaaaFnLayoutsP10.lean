/-
  Plain lemmas on these functions. No conditions but those that each states.
-/
import Derived.Test.YtlmpbacboapkaaaFnLayoutsP9
namespace Go.Proofs.Ytlmpbacboapkaaa
set_option linter.unusedVariables false
set_option linter.unusedSimpArgs false
/-! What is kept, and what a text without a fault is. -/
theorem ft_ok : ∀ (rest pre : Str) (rows long i : Nat) (R0 : List Str) (cur : Str), (ft pre rest rows long i).1 = 0 → rows = R0.length + 1 → rows ≤ 4 → long = cur.length → long ≤ 12 → (∀ w ∈ R0, RWo w) → (∀ c ∈ cur, isL [c] = true ∧ c ≠ 47) → (R0.flatten ++ cur).Nodup → (∀ c, c ≠ 47 → (c ∈ pre ↔ c ∈ R0.flatten ++ cur)) → V (R0 ++ spl rest cur)
  | [], pre, rows, long, i, R0, cur, h, h1, h2, h3, h4, h5, h6, h7, h8 => by
    rw [ft] at h
    by_cases hl : long = 0
    · rw [if_pos hl] at h; exact absurd h (by show ¬ (1 : Int) = 0; decide)
    · refine ⟨⟨by simp [spl], by simp [spl]; omega⟩, fun w hw => ?_, by simpa [spl] using h7⟩
      rw [spl] at hw
      rcases List.mem_append.1 hw with hw | hw
      · exact h5 w hw
      · rw [List.mem_singleton.1 hw]
        exact ⟨by omega, by omega, h6⟩
  | c :: r, pre, rows, long, i, R0, cur, h, h1, h2, h3, h4, h5, h6, h7, h8 => by
    rw [ft] at h
    rw [spl]
    by_cases hc : c = 47
    · rw [if_pos hc] at h ⊢
      by_cases h0 : long = 0 ∨ rows = 4
      · rw [if_pos h0] at h; exact absurd h (by show ¬ (1 : Int) = 0; decide)
      · rw [if_neg h0] at h
        have := ft_ok r (pre ++ [c]) (rows + 1) 0 (i + 1) (R0 ++ [cur]) [] h (by simp; omega) (by omega) rfl (by omega) (fun w hw => by
          rcases List.mem_append.1 hw with hw | hw
          · exact h5 w hw
          · rw [List.mem_singleton.1 hw]; exact ⟨by omega, by omega, h6⟩) (fun d hd => by cases hd) (by simpa using h7) (fun d hd => by
            rw [List.mem_append, List.mem_singleton, h8 d hd]
            simp only [List.flatten_append, List.flatten_singleton, List.append_nil]
            exact ⟨fun g => g.resolve_right fun e => hd (e.trans hc), .inl⟩)
        simpa using this
    · rw [if_neg hc] at h ⊢
      by_cases hL : isL [c] = false
      · rw [if_pos hL] at h; exact absurd h (by show ¬ (2 : Int) = 0; decide)
      · rw [if_neg hL] at h
        by_cases hp : c ∈ pre
        · rw [if_pos hp] at h; exact absurd h (by show ¬ (3 : Int) = 0; decide)
        · rw [if_neg hp] at h
          by_cases h12 : long + 1 > 12
          · rw [if_pos h12] at h; exact absurd h (by show ¬ (4 : Int) = 0; decide)
          · rw [if_neg h12] at h
            have hnm : c ∉ R0.flatten ++ cur := fun g => hp ((h8 c hc).2 g)
            refine ft_ok r (pre ++ [c]) rows (long + 1) (i + 1) R0 (cur ++ [c]) h h1 h2 (by simp; omega) (by omega) h5 (fun d hd => ?_) ?_ fun d hd => ?_
            · rcases List.mem_append.1 hd with hd | hd
              · exact h6 d hd
              · rw [List.mem_singleton.1 hd]; exact ⟨by simpa using hL, hc⟩
            · rw [← List.append_assoc, List.nodup_append]
              exact ⟨h7, by simp, fun a ha b hb e => hnm (by rw [← List.mem_singleton.1 hb, ← e]; exact ha)⟩
            · rw [List.mem_append, List.mem_singleton, h8 d hd, ← List.append_assoc, List.mem_append (s := R0.flatten ++ cur), List.mem_singleton]
theorem fault_V (s : Str) (h : (FT s).1 = 0) : V (spl s []) := by
  have := ft_ok s [] 1 0 0 [] [] h rfl (by omega) rfl (by omega) (fun w hw => by cases hw) (fun c hc => by cases hc) (by simp) (fun c _ => by simp)
  simpa using this
theorem V_b {rows : List Str} (h : V rows) : rows.length ≤ 10 ∧ ∀ w ∈ rows, w.length ≤ 100 := ⟨by have := h.1.2; omega, fun w hw => by have := (h.2.1 w hw).2.1; omega⟩
theorem sw1_sw1 (a b c : UInt8) : sw1 a b (sw1 a b c) = c := by
  unfold sw1
  by_cases h1 : c = a
  · rw [if_pos h1]
    by_cases h2 : b = a
    · rw [if_pos h2, h1, h2]
    · rw [if_neg h2, if_pos rfl, h1]
  · rw [if_neg h1]
    by_cases h2 : c = b
    · rw [if_pos h2, if_pos rfl, h2]
    · rw [if_neg h2, if_neg h1, if_neg h2]
theorem sw1_inj {a b c d : UInt8} (h : sw1 a b c = sw1 a b d) : c = d := by rw [← sw1_sw1 a b c, h, sw1_sw1]
theorem flat_map (f : UInt8 → UInt8) : ∀ rows : List Str, (rows.map fun w => w.map f).flatten = rows.flatten.map f
  | [] => rfl
  | w :: r => by simp only [List.map_cons, List.flatten_cons, List.map_append, flat_map f r]
theorem chg_chg (a b : UInt8) (rows : List Str) : chg a b (chg a b rows) = rows := by
  unfold chg
  rw [List.map_map]
  conv => rhs; rw [← List.map_id rows]
  refine List.map_congr_left fun w _ => ?_
  show (w.map (sw1 a b)).map (sw1 a b) = w
  rw [List.map_map]
  conv => rhs; rw [← List.map_id w]
  exact List.map_congr_left fun c _ => sw1_sw1 a b c
theorem V_let {rows : List Str} (h : V rows) {c : UInt8} (hc : c ∈ rows.flatten) : isL [c] = true ∧ c ≠ 47 := by
  obtain ⟨w, hw, hcw⟩ := List.mem_flatten.1 hc
  exact (h.2.1 w hw).2.2 c hcw
theorem V_chg {rows : List Str} (h : V rows) {a b : UInt8} (ha : a ∈ rows.flatten) (hb : b ∈ rows.flatten) : V (chg a b rows) := by
  obtain ⟨h1, h2, h3⟩ := h
  refine ⟨by unfold chg; simpa using h1, fun w hw => ?_, ?_⟩
  · obtain ⟨v, hv, rfl⟩ := List.mem_map.1 hw
    obtain ⟨g1, g2, g3⟩ := h2 v hv
    refine ⟨by simpa using g1, by simpa using g2, fun c hc => ?_⟩
    obtain ⟨d, hd, rfl⟩ := List.mem_map.1 hc
    unfold sw1
    split
    · exact V_let ⟨h1, h2, h3⟩ hb
    · split
      · exact V_let ⟨h1, h2, h3⟩ ha
      · exact g3 d hd
  · unfold chg
    rw [flat_map]
    unfold List.Nodup
    rw [List.pairwise_map]
    exact h3.imp fun hne e => hne (sw1_inj e)
theorem chg_mem {rows : List Str} {a b : UInt8} (ha : a ∈ rows.flatten) (hb : b ∈ rows.flatten) : a ∈ (chg a b rows).flatten ∧ b ∈ (chg a b rows).flatten := by
  unfold chg
  rw [flat_map]
  refine ⟨List.mem_map.2 ⟨b, hb, ?_⟩, List.mem_map.2 ⟨a, ha, ?_⟩⟩
  · unfold sw1
    by_cases e : b = a
    · rw [if_pos e, e]
    · rw [if_neg e, if_pos rfl]
  · unfold sw1
    rw [if_pos rfl]
theorem mir_mir (rows : List Str) : mir (mir rows) = rows := by
  unfold mir
  rw [List.map_map]
  conv => rhs; rw [← List.map_id rows]
  exact List.map_congr_left fun w _ => List.reverse_reverse w
theorem mir_perm : ∀ rows : List Str, (mir rows).flatten.Perm rows.flatten
  | [] => List.Perm.refl _
  | w :: r => by
    have ih := mir_perm r
    unfold mir at ih ⊢
    simp only [List.map_cons, List.flatten_cons]
    exact (List.reverse_perm w).append ih
theorem V_mir {rows : List Str} (h : V rows) : V (mir rows) := by
  obtain ⟨h1, h2, h3⟩ := h
  refine ⟨by unfold mir; simpa using h1, fun w hw => ?_, (mir_perm rows).nodup_iff.2 h3⟩
  obtain ⟨v, hv, rfl⟩ := List.mem_map.1 hw
  obtain ⟨g1, g2, g3⟩ := h2 v hv
  exact ⟨by simpa using g1, by simpa using g2, fun c hc => g3 c (List.mem_reverse.1 hc)⟩
theorem isL_one {s : Str} (h : isL s = true) : ∃ c, s = [c] := by
  match s, h with
  | [c], _ => exact ⟨c, rfl⟩
/-- an exchange -/
theorem exch_ok (rows : List Str) (hr : rows.length ≤ 10) (hw : ∀ w ∈ rows, w.length ≤ 100) (p q : Str) (N : Nat) (hN : 3000 < N) : ∃ r, i_ExchangeLetters N (Layout.mk rows) p q = some r ∧ s_ExchangeLetters N (Layout.mk rows) p q = some r ∧ r.1.rows.length ≤ 10 ∧
    (r.2 = 0 → ∃ a b, p = [a] ∧ q = [b] ∧ V rows ∧ a ∈ rows.flatten ∧ b ∈ rows.flatten ∧ r = (Layout.mk (chg a b rows), 0)) ∧ (∀ a b, p = [a] → q = [b] → V rows → a ∈ rows.flatten → b ∈ rows.flatten → r = (Layout.mk (chg a b rows), 0)) := by
  unfold i_ExchangeLetters s_ExchangeLetters
  rw [show i_ValidLayout N (Layout.mk (Layout.mk rows).rows) = some (VL rows) from ivalid rows hr hw N (by omega), show s_l06Ok N (Layout.mk (Layout.mk rows).rows) = some (VL rows) from svalid rows hr hw N (by omega), Option.bind_some, Option.bind_some]
  cases hv : VL rows with
  | false => exact ⟨(Layout.mk [], 1), rfl, rfl, by simp, fun h => absurd h (by decide), fun a b _ _ hV _ _ => by rw [(VL_iff rows).2 hV] at hv; cases hv⟩
  | true =>
    have hV := (VL_iff rows).1 hv
    rw [Bool.not_true, cond_false, cond_false, i_letter p N (by omega), s_letter p, Option.bind_some, Option.bind_some, i_letter q N (by omega), s_letter q, Option.bind_some, orO_some, Option.bind_some, Option.bind_some]
    cases hpq : (!isL p || !isL q) with
    | true =>
      refine ⟨(Layout.mk [], 2), rfl, rfl, by simp, fun h => absurd h (by decide), fun a b e1 e2 _ ha hb => ?_⟩
      rw [e1, e2, (V_let hV ha).1, (V_let hV hb).1] at hpq
      cases hpq
    | false =>
      rw [Bool.or_eq_false_iff, Bool.not_eq_false', Bool.not_eq_false'] at hpq
      obtain ⟨a, rfl⟩ := isL_one hpq.1
      obtain ⟨b, rfl⟩ := isL_one hpq.2
      have i1 : idx ([a] : Str) 0 = some a := rfl
      have i2 : idx ([b] : Str) 0 = some b := rfl
      obtain ⟨c1, c2⟩ := change_ok a b rows hr hw N (by omega)
      rw [cond_false, cond_false, i1, i2]
      simp only [Option.bind_some]
      rw [ispot rows hr hw a N (by omega), ispot rows hr hw b N (by omega), sat rows hr hw a N (by omega), sat rows hr hw b N (by omega)]
      simp only [Option.bind_some, orO_some]
      by_cases ha : a ∈ rows.flatten
      · by_cases hb : b ∈ rows.flatten
        · obtain ⟨i, k, w, g1, _⟩ := (fo_mem a rows).1 ha
          obtain ⟨i', k', w', g2, _⟩ := (fo_mem b rows).1 hb
          rw [g1, g2]
          have d1 : decide ((spS (some (i, k))).1 < 0) = false := decide_eq_false (by show ¬ (i : Int) < 0; omega)
          have d2 : decide ((spS (some (i', k'))).1 < 0) = false := decide_eq_false (by show ¬ (i' : Int) < 0; omega)
          rw [d1, d2, show (spI (some (i, k))).2.2 = true from rfl, show (spI (some (i', k'))).2.2 = true from rfl, Bool.not_true, Bool.or_self, cond_false, cond_false, c1, c2]
          exact ⟨_, rfl, rfl, by show (chg a b rows).length ≤ 10; unfold chg; simpa using hr, fun _ => ⟨a, b, rfl, rfl, hV, ha, hb, rfl⟩, fun a' b' e1 e2 _ _ _ => by injection e1 with e1; injection e2 with e2; subst e1 e2; rfl⟩
        · rw [(fo_mem b rows).2 hb]
          refine ⟨(Layout.mk [], 3), ?_, ?_, by simp, fun h => absurd h (by decide), fun a' b' _ e2 _ _ hb' => ?_⟩
          · rw [show (spI none).2.2 = false from rfl, Bool.not_false, Bool.or_true]; rfl
          · rw [show decide ((spS none).1 < 0) = true from rfl, Bool.or_true]; rfl
          · injection e2 with e2; subst e2; exact absurd hb' hb
      · rw [(fo_mem a rows).2 ha]
        refine ⟨(Layout.mk [], 3), rfl, rfl, by simp, fun h => absurd h (by decide), fun a' b' e1 _ _ ha' _ => ?_⟩
        injection e1 with e1; subst e1; exact absurd ha' ha
/-- a spot -/
theorem spot_ok (rows : List Str) (hr : rows.length ≤ 10) (hw : ∀ w ∈ rows, w.length ≤ 100) (p : Str) (N : Nat) (hN : 3000 < N) : ∃ r, i_SpotOfLetter N (Layout.mk rows) p = some r ∧ s_SpotOfLetter N (Layout.mk rows) p = some r ∧ (r.2.2 = 0 → ∃ (c : UInt8) (i k : Nat) (w : Str), p = [c] ∧ r = ((i : Int), (k : Int), 0) ∧ rows[i]? = some w ∧ w[k]? = some c) := by
  unfold i_SpotOfLetter s_SpotOfLetter
  rw [show i_ValidLayout N (Layout.mk (Layout.mk rows).rows) = some (VL rows) from ivalid rows hr hw N (by omega), show s_l06Ok N (Layout.mk (Layout.mk rows).rows) = some (VL rows) from svalid rows hr hw N (by omega), Option.bind_some, Option.bind_some]
  cases hv : VL rows with
  | false => exact ⟨(0, 0, 1), rfl, rfl, fun h => absurd h (by decide)⟩
  | true =>
    rw [Bool.not_true, cond_false, cond_false, i_letter p N (by omega), s_letter p, Option.bind_some, Option.bind_some]
    cases hp : isL p with
    | false => exact ⟨(0, 0, 2), rfl, rfl, fun h => absurd h (by decide)⟩
    | true =>
      obtain ⟨a, rfl⟩ := isL_one hp
      have i1 : idx ([a] : Str) 0 = some a := rfl
      rw [Bool.not_true, cond_false, cond_false, i1]
      simp only [Option.bind_some]
      rw [ispot rows hr hw a N (by omega), sat rows hr hw a N (by omega), Option.bind_some, Option.bind_some]
      by_cases ha : a ∈ rows.flatten
      · obtain ⟨i, k, w, g1, _, g3, g4⟩ := (fo_mem a rows).1 ha
        rw [g1]
        have d1 : decide ((spS (some (i, k))).1 < 0) = false := decide_eq_false (by show ¬ (i : Int) < 0; omega)
        rw [d1]
        exact ⟨((i : Int), (k : Int), 0), rfl, rfl, fun _ => ⟨a, i, k, w, rfl, rfl, g3, g4⟩⟩
      · rw [(fo_mem a rows).2 ha]
        exact ⟨(0, 0, 3), rfl, rfl, fun h => absurd h (by decide)⟩
end Go.Proofs.Ytlmpbacboapkaaa
