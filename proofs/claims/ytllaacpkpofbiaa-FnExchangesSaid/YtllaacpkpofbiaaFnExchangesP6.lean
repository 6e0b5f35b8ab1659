/-
  Plain lemmas on these functions. No conditions but those that each states.
-/
import Derived.Test.YtllaacpkpofbiaaFnExchangesP5
namespace Go.Proofs.Ytllaacpkpofbiaa
set_option linter.unusedVariables false
set_option linter.unusedSimpArgs false
/-! Mirrored rows. -/
def mir (rows : List Str) : List Str := rows.map List.reverse
/-! shares -/
def isum : List Int → Int
  | [] => 0
  | x :: r => x + isum r
theorem isum_set : ∀ (l : List Int) (i : Nat) (h : i < l.length), isum (l.set i (l[i] + 1)) = isum l + 1
  | x :: r, 0, _ => by simp only [List.set_cons_zero, List.getElem_cons_zero, isum]; omega
  | x :: r, i + 1, h => by
    have := isum_set r i (by simpa using h)
    simp only [List.set_cons_succ, List.getElem_cons_succ, isum, this]; omega
theorem isum_rep : ∀ n : Nat, isum (List.replicate n 0) = 0
  | 0 => rfl
  | n + 1 => by rw [List.replicate_succ, isum, isum_rep n]; rfl
theorem fo_mem (c : UInt8) (rows : List Str) : (c ∈ rows.flatten → ∃ i k w, fo c rows 0 = some (i, k) ∧ i < rows.length ∧ rows[i]? = some w ∧ w[k]? = some c) ∧ (c ∉ rows.flatten → fo c rows 0 = none) := by
  refine ⟨fun h => ?_, fo_none c rows 0⟩
  obtain ⟨i, k, w, h1, _, h3, h4, h5⟩ := fo_in c rows [] 0 h
  rw [List.append_nil] at h1 h4
  exact ⟨i, k, w, h1, by omega, by simpa using h4, h5⟩
/-! the text -/
theorem joinTail_cons (sep x : Str) (r : List Str) : Lib.joinTail sep (x :: r) = sep ++ x ++ Lib.joinTail sep r := by simp [Lib.joinTail]
theorem join_le : ∀ (r : List Str) (sep : Str), (∀ w ∈ r, w.length ≤ 100) → (Lib.joinTail sep r).length ≤ (100 + sep.length) * r.length
  | [], _, _ => by simp [Lib.joinTail]
  | x :: r, sep, h => by
    have h1 := h x List.mem_cons_self
    have h2 := join_le r sep fun w hw => h w (List.mem_cons_of_mem _ hw)
    rw [joinTail_cons, List.length_append, List.length_append, List.length_cons, Nat.mul_add]
    omega
theorem join_len (rows : List Str) (hr : rows.length ≤ 10) (hw : ∀ w ∈ rows, w.length ≤ 100) : (Lib.join rows [47]).length ≤ 2000 := by
  cases rows with
  | nil => simp [Lib.join_nil]
  | cons w0 r =>
    have h1 := hw w0 List.mem_cons_self
    have h2 := join_le r [47] fun w h => hw w (List.mem_cons_of_mem _ h)
    rw [Lib.join_cons, List.length_append]
    simp only [List.length_cons, List.length_nil] at hr h2
    omega
/-! What is kept, and what a text without a fault is. -/
theorem ft_ok : ∀ (rest pre : Str) (rows long i : Nat) (R0 : List Str) (cur : Str), (ft pre rest rows long i).1 = 0 → rows = R0.length + 1 → rows ≤ 4 → long = cur.length → long ≤ 12 → (∀ w ∈ R0, RWo w) → (∀ c ∈ cur, isL [c] = true ∧ c ≠ 47) → (R0.flatten ++ cur).Nodup → (∀ c, c ≠ 47 → (c ∈ pre ↔ c ∈ R0.flatten ++ cur)) → V (R0 ++ spl rest cur)
  | [], pre, rows, long, i, R0, cur, h, h1, h2, h3, h4, h5, h6, h7, h8 => by
    rw [ft] at h
    by_cases hl : long = 0
    · rw [if_pos hl] at h; exact absurd h (by show ¬ (1 : Int) = 0; decide)
    · refine ⟨⟨by simp [spl], by simp [spl]; omega⟩, fun w hw => ?_, by simpa [spl] using h7⟩
      rw [spl] at hw
      rcases List.mem_append.1 hw with hw | hw
      · exact h5 w hw
      · rw [List.mem_singleton.1 hw]
        exact ⟨by omega, by omega, h6⟩
  | c :: r, pre, rows, long, i, R0, cur, h, h1, h2, h3, h4, h5, h6, h7, h8 => by
    rw [ft] at h
    rw [spl]
    by_cases hc : c = 47
    · rw [if_pos hc] at h ⊢
      by_cases h0 : long = 0 ∨ rows = 4
      · rw [if_pos h0] at h; exact absurd h (by show ¬ (1 : Int) = 0; decide)
      · rw [if_neg h0] at h
        have := ft_ok r (pre ++ [c]) (rows + 1) 0 (i + 1) (R0 ++ [cur]) [] h (by simp; omega) (by omega) rfl (by omega) (fun w hw => by
          rcases List.mem_append.1 hw with hw | hw
          · exact h5 w hw
          · rw [List.mem_singleton.1 hw]; exact ⟨by omega, by omega, h6⟩) (fun d hd => by cases hd) (by simpa using h7) (fun d hd => by
            rw [List.mem_append, List.mem_singleton, h8 d hd]
            simp only [List.flatten_append, List.flatten_singleton, List.append_nil]
            exact ⟨fun g => g.resolve_right fun e => hd (e.trans hc), .inl⟩)
        simpa using this
    · rw [if_neg hc] at h ⊢
      by_cases hL : isL [c] = false
      · rw [if_pos hL] at h; exact absurd h (by show ¬ (2 : Int) = 0; decide)
      · rw [if_neg hL] at h
        by_cases hp : c ∈ pre
        · rw [if_pos hp] at h; exact absurd h (by show ¬ (3 : Int) = 0; decide)
        · rw [if_neg hp] at h
          by_cases h12 : long + 1 > 12
          · rw [if_pos h12] at h; exact absurd h (by show ¬ (4 : Int) = 0; decide)
          · rw [if_neg h12] at h
            have hnm : c ∉ R0.flatten ++ cur := fun g => hp ((h8 c hc).2 g)
            refine ft_ok r (pre ++ [c]) rows (long + 1) (i + 1) R0 (cur ++ [c]) h h1 h2 (by simp; omega) (by omega) h5 (fun d hd => ?_) ?_ fun d hd => ?_
            · rcases List.mem_append.1 hd with hd | hd
              · exact h6 d hd
              · rw [List.mem_singleton.1 hd]; exact ⟨by simpa using hL, hc⟩
            · rw [← List.append_assoc, List.nodup_append]
              exact ⟨h7, by simp, fun a ha b hb e => hnm (by rw [← List.mem_singleton.1 hb, ← e]; exact ha)⟩
            · rw [List.mem_append, List.mem_singleton, h8 d hd, ← List.append_assoc, List.mem_append (s := R0.flatten ++ cur), List.mem_singleton]
theorem fault_V (s : Str) (h : (FT s).1 = 0) : V (spl s []) := by
  have := ft_ok s [] 1 0 0 [] [] h rfl (by omega) rfl (by omega) (fun w hw => by cases hw) (fun c hc => by cases hc) (by simp) (fun c _ => by simp)
  simpa using this
theorem V_b {rows : List Str} (h : V rows) : rows.length ≤ 10 ∧ ∀ w ∈ rows, w.length ≤ 100 := ⟨by have := h.1.2; omega, fun w hw => by have := (h.2.1 w hw).2.1; omega⟩
theorem sw1_sw1 (a b c : UInt8) : sw1 a b (sw1 a b c) = c := by
  unfold sw1
  by_cases h1 : c = a
  · rw [if_pos h1]
    by_cases h2 : b = a
    · rw [if_pos h2, h1, h2]
    · rw [if_neg h2, if_pos rfl, h1]
  · rw [if_neg h1]
    by_cases h2 : c = b
    · rw [if_pos h2, if_pos rfl, h2]
    · rw [if_neg h2, if_neg h1, if_neg h2]
theorem sw1_inj {a b c d : UInt8} (h : sw1 a b c = sw1 a b d) : c = d := by rw [← sw1_sw1 a b c, h, sw1_sw1]
theorem flat_map (f : UInt8 → UInt8) : ∀ rows : List Str, (rows.map fun w => w.map f).flatten = rows.flatten.map f
  | [] => rfl
  | w :: r => by simp only [List.map_cons, List.flatten_cons, List.map_append, flat_map f r]
theorem chg_chg (a b : UInt8) (rows : List Str) : chg a b (chg a b rows) = rows := by
  unfold chg
  rw [List.map_map]
  conv => rhs; rw [← List.map_id rows]
  refine List.map_congr_left fun w _ => ?_
  show (w.map (sw1 a b)).map (sw1 a b) = w
  rw [List.map_map]
  conv => rhs; rw [← List.map_id w]
  exact List.map_congr_left fun c _ => sw1_sw1 a b c
theorem V_let {rows : List Str} (h : V rows) {c : UInt8} (hc : c ∈ rows.flatten) : isL [c] = true ∧ c ≠ 47 := by
  obtain ⟨w, hw, hcw⟩ := List.mem_flatten.1 hc
  exact (h.2.1 w hw).2.2 c hcw
theorem V_chg {rows : List Str} (h : V rows) {a b : UInt8} (ha : a ∈ rows.flatten) (hb : b ∈ rows.flatten) : V (chg a b rows) := by
  obtain ⟨h1, h2, h3⟩ := h
  refine ⟨by unfold chg; simpa using h1, fun w hw => ?_, ?_⟩
  · obtain ⟨v, hv, rfl⟩ := List.mem_map.1 hw
    obtain ⟨g1, g2, g3⟩ := h2 v hv
    refine ⟨by simpa using g1, by simpa using g2, fun c hc => ?_⟩
    obtain ⟨d, hd, rfl⟩ := List.mem_map.1 hc
    unfold sw1
    split
    · exact V_let ⟨h1, h2, h3⟩ hb
    · split
      · exact V_let ⟨h1, h2, h3⟩ ha
      · exact g3 d hd
  · unfold chg
    rw [flat_map]
    unfold List.Nodup
    rw [List.pairwise_map]
    exact h3.imp fun hne e => hne (sw1_inj e)
theorem chg_mem {rows : List Str} {a b : UInt8} (ha : a ∈ rows.flatten) (hb : b ∈ rows.flatten) : a ∈ (chg a b rows).flatten ∧ b ∈ (chg a b rows).flatten := by
  unfold chg
  rw [flat_map]
  refine ⟨List.mem_map.2 ⟨b, hb, ?_⟩, List.mem_map.2 ⟨a, ha, ?_⟩⟩
  · unfold sw1
    by_cases e : b = a
    · rw [if_pos e, e]
    · rw [if_neg e, if_pos rfl]
  · unfold sw1
    rw [if_pos rfl]
theorem mir_mir (rows : List Str) : mir (mir rows) = rows := by
  unfold mir
  rw [List.map_map]
  conv => rhs; rw [← List.map_id rows]
  exact List.map_congr_left fun w _ => List.reverse_reverse w
theorem mir_perm : ∀ rows : List Str, (mir rows).flatten.Perm rows.flatten
  | [] => List.Perm.refl _
  | w :: r => by
    have ih := mir_perm r
    unfold mir at ih ⊢
    simp only [List.map_cons, List.flatten_cons]
    exact (List.reverse_perm w).append ih
theorem V_mir {rows : List Str} (h : V rows) : V (mir rows) := by
  obtain ⟨h1, h2, h3⟩ := h
  refine ⟨by unfold mir; simpa using h1, fun w hw => ?_, (mir_perm rows).nodup_iff.2 h3⟩
  obtain ⟨v, hv, rfl⟩ := List.mem_map.1 hw
  obtain ⟨g1, g2, g3⟩ := h2 v hv
  exact ⟨by simpa using g1, by simpa using g2, fun c hc => g3 c (List.mem_reverse.1 hc)⟩
theorem isL_one {s : Str} (h : isL s = true) : ∃ c, s = [c] := by
  match s, h with
  | [c], _ => exact ⟨c, rfl⟩
/-! Drawn layouts. -/
theorem dr_l2 {code : List UInt8} (s : L00Src) (hs : s.code = code) (kj : Int → Int → List UInt8 → List UInt8 → Option (Layout × L00Src)) (Q : Layout × L00Src → Prop) : ∀ (n N : Nat) (a sd hi : Int) (l m : Str), n < N → 0 ≤ a → a ≤ hi → hi + 2 * n ≤ 1000000 → l.length + n ≤ 10 → n + 2 ≤ m.length → m.length ≤ 100 →
    (∀ a' sd' l' m', 0 ≤ a' → a' ≤ hi + 2 * n → l'.length ≤ l.length + n → m'.length + n = m.length → ∃ r, kj a' sd' l' m' = some r ∧ Q r) → ∃ r, s_l06Draw_l2 kj s N a sd l m (n : Int) = some r ∧ Q r := by
  intro n
  induction n with
  | zero =>
    intro N a sd hi l m hN h0 h1 h2 h3 h4 h5 k
    obtain ⟨N, rfl⟩ := pos_fuel hN
    have hz : ¬ ((0 : Nat) : Int) > 0 := by omega
    simp only [s_l06Draw_l2, hz, decide_false, cond_false]
    exact k a sd l m h0 (by omega) (by omega) (by omega)
  | succ n ih =>
    intro N a sd hi l m hN h0 h1 h2 h3 h4 h5 k
    obtain ⟨N, rfl⟩ := pos_fuel hN
    have hz : ((n + 1 : Nat) : Int) > 0 := by omega
    have e2 : w64 (((n + 1 : Nat) : Int) - 1) = (n : Int) := by rw [w64_id (by omega) (by omega)]; omega
    simp only [s_l06Draw_l2, hz, decide_true, cond_true, e2]
    refine bindE (pickA (code := code) (hi := hi) (m.length : Int) ⟨hs, h0, h1⟩ (by omega)) fun v g => ?_
    have gc := g.2.2 (by omega)
    obtain ⟨p, hp⟩ := Int.eq_ofNat_of_zero_le g.2.1
    rw [hp] at gc ⊢
    have hs1 : sub m 0 (p : Int) = some (m.take p) := by rw [sub_some m 0 p (by omega) (by omega) (by omega)]; simp
    have hs2 : sub m ((p + 1 : Nat) : Int) (m.length : Int) = some (m.drop (p + 1)) := by
      rw [sub_some m _ _ (by omega) (by omega) (by omega), Int.toNat_natCast, Int.toNat_natCast, List.take_of_length_le (by rw [List.length_drop]; omega)]
    have hlt : (m.take p).length + (m.drop (p + 1)).length + 1 = m.length := by rw [List.length_take, List.length_drop]; omega
    rw [idx_lt m p (by omega), Option.bind_some, app_some _ _ (by unfold LIM; simp; omega), Option.bind_some, hs1, Option.bind_some, app_some _ _ (by unfold LIM; simp; omega), Option.bind_some, w64_nat p (by omega), hs2, Option.bind_some, List.nil_append, app_some _ _ (by unfold LIM; omega), Option.bind_some]
    exact ih N _ _ (hi + 2) _ _ (by omega) g.1.2.1 g.1.2.2 (by omega) (by simp; omega) (by rw [List.length_append]; omega) (by rw [List.length_append]; omega) (fun a' sd' l' m' w1 w2 w3 w4 => k a' sd' l' m' w1 (by omega) (by rw [List.length_append, List.length_singleton] at w3; omega) (by rw [List.length_append] at w4; omega))
def LB (k : Nat) (rows : List Str) : Prop := ∀ w ∈ rows, w.length ≤ k
theorem LB.snoc {k : Nat} {rows : List Str} (h : LB k rows) {w : Str} (hw : w.length ≤ k) : LB k (rows ++ [w]) := fun x hx => by
  rcases List.mem_append.1 hx with hx | hx
  · exact h x hx
  · rw [List.mem_singleton.1 hx]; exact hw
theorem dr_l1 {code : List UInt8} (s : L00Src) (hs : s.code = code) (kj : Int → Int → List Str → Option (Layout × L00Src)) (Q : Layout × L00Src → Prop) : ∀ (n N : Nat) (a sd hi : Int) (l : List Str) (m : Str), n + 20 < N → 0 ≤ a → a ≤ hi → hi + 20 * n ≤ 1000000 → 6 * n + 2 ≤ m.length → m.length ≤ 100 → l.length + n ≤ 10 → LB 6 l →
    (∀ a' sd' l', 0 ≤ a' → a' ≤ hi + 20 * n → l'.length = l.length + n → LB 6 l' → ∃ r, kj a' sd' l' = some r ∧ Q r) → ∃ r, s_l06Draw_l1 kj s N a sd l m (n : Int) = some r ∧ Q r := by
  intro n
  induction n with
  | zero =>
    intro N a sd hi l m hN h0 h1 h2 h3 h4 h5 h6 k
    obtain ⟨N, rfl⟩ := pos_fuel (show 0 < N by omega)
    have hz : ¬ ((0 : Nat) : Int) > 0 := by omega
    simp only [s_l06Draw_l1, hz, decide_false, cond_false]
    exact k a sd l h0 (by omega) (by omega) h6
  | succ n ih =>
    intro N a sd hi l m hN h0 h1 h2 h3 h4 h5 h6 k
    obtain ⟨N, rfl⟩ := pos_fuel (show 0 < N by omega)
    have hz : ((n + 1 : Nat) : Int) > 0 := by omega
    have e2 : w64 (((n + 1 : Nat) : Int) - 1) = (n : Int) := by rw [w64_id (by omega) (by omega)]; omega
    simp only [s_l06Draw_l1, hz, decide_true, cond_true, e2, withK_eq]
    refine bindE (pickA (code := code) (hi := hi) 6 ⟨hs, h0, h1⟩ (by omega)) fun v g => ?_
    have gc := g.2.2 (by omega)
    obtain ⟨p, hp⟩ := Int.eq_ofNat_of_zero_le g.2.1
    rw [hp] at gc ⊢
    rw [show (1 : Int) + (p : Int) = ((p + 1 : Nat) : Int) by omega, w64_id (x := ((p + 1 : Nat) : Int)) (by omega) (by omega)]
    refine dr_l2 (code := code) s hs _ Q (p + 1) N _ _ (hi + 2) [] m (by omega) g.1.2.1 g.1.2.2 (by omega) (by simp; omega) (by omega) h4 fun a' sd' l' m' w1 w2 w3 w4 => ?_
    refine appE (by unfold LIM; simp; omega) ?_
    simp only [List.length_nil] at w3
    exact ih N a' sd' (hi + 2 + 2 * (p + 1 : Nat)) _ m' (by omega) w1 (by omega) (by omega) (by omega) (by omega) (by simp; omega) (h6.snoc (by omega)) (fun a2 sd2 l2 z1 z2 z3 z4 => k a2 sd2 l2 z1 (by omega) (by simp at z3; omega) z4)
theorem draw_ok {code : List UInt8} {hi : Int} {s : L00Src} (h : SrcAt code hi s) (hb : hi ≤ 1000) (N : Nat) (hN : 50 < N) : ∃ v, s_l06Draw N s = some v ∧ SrcAt code (hi + 100) v.2 ∧ 1 ≤ v.1.rows.length ∧ v.1.rows.length ≤ 3 ∧ LB 6 v.1.rows := by
  obtain ⟨hs, h0, h1⟩ := h
  unfold s_l06Draw
  rw [withK_n]
  refine bindE (pickA (code := code) (hi := hi) 3 ⟨hs, h0, h1⟩ (by omega)) fun v g => ?_
  have gc := g.2.2 (by omega)
  obtain ⟨p, hp⟩ := Int.eq_ofNat_of_zero_le g.2.1
  rw [hp] at gc ⊢
  rw [show (1 : Int) + (p : Int) = ((p + 1 : Nat) : Int) by omega, w64_id (x := ((p + 1 : Nat) : Int)) (by omega) (by omega)]
  refine dr_l1 (code := code) s hs _ (fun r => SrcAt code (hi + 100) r.2 ∧ 1 ≤ r.1.rows.length ∧ r.1.rows.length ≤ 3 ∧ LB 6 r.1.rows) (p + 1) N _ _ (hi + 2) [] _ (by omega) g.1.2.1 g.1.2.2 (by omega) (by simp; omega) (by simp) (by simp; omega) (fun w hw => by cases hw) fun a' sd' l' w1 w2 w3 w4 => ⟨_, rfl, ⟨hs, w1, by show a' ≤ hi + 100; omega⟩, ?_, ?_, w4⟩
  · show 1 ≤ l'.length
    rw [w3]; simp
  · show l'.length ≤ 3
    rw [w3]; simp; omega
def BL (v : Layout) : Prop := v.rows.length ≤ 5 ∧ LB 14 v.rows
theorem bent_ok {code : List UInt8} {hi : Int} {s : L00Src} (h : SrcAt code hi s) (hb : hi ≤ 1000) (N : Nat) (hN : 50 < N) : ∃ v, s_l06Bent N s = some v ∧ SrcAt code (hi + 200) v.2 ∧ BL v.1 := by
  unfold s_l06Bent
  simp only [withK_eq]
  have hs : s.code = code := h.1
  refine bindE (draw_ok (code := code) (s := L00Src.mk s.code s.at_ s.seed) ⟨hs, h.2⟩ hb N hN) fun v g => ?_
  obtain ⟨g1, g2, g3, g4⟩ := g
  have fin : ∀ (a sd : Int) (l : List Str), 0 ≤ a → a ≤ hi + 200 → l.length ≤ 5 → LB 14 l → ∃ r, some (Layout.mk l, L00Src.mk s.code a sd) = some r ∧ (SrcAt code (hi + 200) r.2 ∧ BL r.1) := fun a sd l w1 w2 w3 w4 => ⟨_, rfl, ⟨hs, w1, w2⟩, w3, w4⟩
  have hL14 : LB 14 v.1.rows := fun w hw => by have := g4 w hw; omega
  refine bindE (pickA (code := code) (hi := hi + 100) (s := L00Src.mk s.code v.2.at_ v.2.seed) 20 ⟨hs, g1.2⟩ (by omega)) fun v1 k1 => ?_
  refine condE (fun _ => ?_) fun _ => condE (fun _ => ?_) fun _ => condE (fun _ => ?_) fun _ => condE (fun _ => ?_) fun _ => ?_
  · have i0 : idx v.1.rows 0 = some v.1.rows[0] := idx_lt v.1.rows 0 (by omega)
    rw [i0, Option.bind_some]
    refine bindE (textA (code := code) (hi := hi + 100 + 2) (s := L00Src.mk s.code v1.2.at_ v1.2.seed) _ (by decide) ⟨hs, k1.1.2⟩ (by omega)) fun v2 k2 => ?_
    have hv2 : v2.1.length ≤ 2 := by
      have : ∀ x ∈ ([[47], [32], [113, 113], [127]] : List Str), x.length ≤ 2 := by decide
      exact this _ k2.2
    have h0l := g4 _ (List.getElem_mem (show 0 < v.1.rows.length by omega))
    rw [cat_some _ _ (by unfold LIM; omega), Option.bind_some, Option.bind_some]
    refine fin _ _ _ k2.1.2.1 (by have := k2.1.2.2; omega) (by simp; omega) fun w hw => ?_
    rcases List.mem_or_eq_of_mem_set hw with hw | rfl
    · exact hL14 w hw
    · rw [List.length_append]; omega
  · refine bindE (textA (code := code) (hi := hi + 100 + 2) (s := L00Src.mk s.code v1.2.at_ v1.2.seed) _ (by decide) ⟨hs, k1.1.2⟩ (by omega)) fun v2 k2 => ?_
    have hv2 : v2.1.length ≤ 2 := by
      have : ∀ x ∈ ([[], [43], [113]] : List Str), x.length ≤ 2 := by decide
      exact this _ k2.2
    refine appE (by unfold LIM; simp; omega) ?_
    exact fin _ _ _ k2.1.2.1 (by have := k2.1.2.2; omega) (by simp; omega) (hL14.snoc (by omega))
  · have hbig : LB 12 ([[97, 98, 99, 100, 101, 102, 103, 104, 105, 106, 107, 108], [65, 66, 67, 68, 69, 70, 71, 72, 73, 74, 75, 76], [49, 50, 51, 52, 53, 54, 55, 56, 57, 43, 45, 61], [109, 110, 111, 112, 113, 114, 115, 116, 117, 118, 119, 120]] : List Str) := by unfold LB; decide
    have hlen : ([[97, 98, 99, 100, 101, 102, 103, 104, 105, 106, 107, 108], [65, 66, 67, 68, 69, 70, 71, 72, 73, 74, 75, 76], [49, 50, 51, 52, 53, 54, 55, 56, 57, 43, 45, 61], [109, 110, 111, 112, 113, 114, 115, 116, 117, 118, 119, 120]] : List Str).length = 4 := rfl
    generalize ([[97, 98, 99, 100, 101, 102, 103, 104, 105, 106, 107, 108], [65, 66, 67, 68, 69, 70, 71, 72, 73, 74, 75, 76], [49, 50, 51, 52, 53, 54, 55, 56, 57, 43, 45, 61], [109, 110, 111, 112, 113, 114, 115, 116, 117, 118, 119, 120]] : List Str) = big at hbig hlen ⊢
    have fin2 : ∀ (a sd : Int) (l : List Str), 0 ≤ a → a ≤ hi + 180 → l.length ≤ 4 → LB 14 l → ∃ r, ((s_l00Src_one (L00Src.mk s.code a sd) 3).bind fun r59 => bif r59.1 then (app l ([[121, 122]] : List Str)).bind fun l63 => some (Layout.mk l63, L00Src.mk s.code r59.2.at_ r59.2.seed) else some (Layout.mk l, L00Src.mk s.code r59.2.at_ r59.2.seed)) = some r ∧ (SrcAt code (hi + 200) r.2 ∧ BL r.1) := fun a sd l w1 w2 w3 w4 => by
      refine bindE (oneA (code := code) (hi := hi + 180) (s := L00Src.mk s.code a sd) 3 ⟨hs, w1, w2⟩ (by omega)) fun v3 k3 => ?_
      refine condE (fun _ => ?_) fun _ => ?_
      · refine appE (by unfold LIM; simp; omega) ?_
        exact fin _ _ _ k3.2.1 (by have := k3.2.2; omega) (by simp; omega) (w4.snoc (by simp))
      · exact fin _ _ _ k3.2.1 (by have := k3.2.2; omega) (by omega) w4
    refine bindE (oneA (code := code) (hi := hi + 100 + 2) (s := L00Src.mk s.code v1.2.at_ v1.2.seed) 2 ⟨hs, k1.1.2⟩ (by omega)) fun v2 k2 => ?_
    refine condE (fun _ => ?_) fun _ => ?_
    · refine bindE (pickA (code := code) (hi := hi + 100 + 2 + 2) (s := L00Src.mk s.code v2.2.at_ v2.2.seed) 4 ⟨hs, k2.2⟩ (by omega)) fun v3 k3 => ?_
      have kc := k3.2.2 (by omega)
      have hix : idx big v3.1 = some (big[v3.1.toNat]'(by have := k3.2.1; omega)) := idx_int big _ k3.2.1 (by omega)
      have hml := hbig _ (List.getElem_mem (show v3.1.toNat < big.length by have := k3.2.1; omega))
      rw [hix, Option.bind_some, cat_some _ _ (by unfold LIM; simp only [List.length_singleton]; omega), Option.bind_some, Option.bind_some]
      refine fin2 _ _ _ k3.1.2.1 (by have := k3.1.2.2; omega) (by rw [List.length_set]; omega) fun w hw => ?_
      rcases List.mem_or_eq_of_mem_set hw with hw | rfl
      · have := hbig w hw; omega
      · rw [List.length_append, List.length_singleton]; omega
    · exact fin2 _ _ _ k2.2.1 (by have := k2.2.2; omega) (by omega) (fun w hw => by have := hbig w hw; omega)
  · exact fin _ _ _ k1.1.2.1 (by have := k1.1.2.2; omega) (by simp) (fun w hw => by cases hw)
  · exact fin _ _ _ k1.1.2.1 (by have := k1.1.2.2; omega) (by omega) hL14
theorem BL.b {v : Layout} (h : BL v) : v.rows.length ≤ 10 ∧ ∀ w ∈ v.rows, w.length ≤ 100 := ⟨by have := h.1; omega, fun w hw => by have := h.2 w hw; omega⟩
theorem join_le' (m : Nat) : ∀ (r : List Str) (sep : Str), (∀ w ∈ r, w.length ≤ m) → (Lib.joinTail sep r).length ≤ (m + sep.length) * r.length
  | [], _, _ => by simp [Lib.joinTail]
  | x :: r, sep, h => by
    have h1 := h x List.mem_cons_self
    have h2 := join_le' m r sep fun w hw => h w (List.mem_cons_of_mem _ hw)
    rw [joinTail_cons, List.length_append, List.length_append, List.length_cons, Nat.mul_add]
    omega
theorem BL.text {v : Layout} (h : BL v) : (Lib.join v.rows [47]).length ≤ 100 := by
  obtain ⟨h1, h2⟩ := h
  cases hr : v.rows with
  | nil => simp [Lib.join_nil]
  | cons w0 r =>
    rw [hr] at h1 h2
    have g1 := h2 w0 List.mem_cons_self
    have g2 := join_le' 14 r [47] fun w hw => h2 w (List.mem_cons_of_mem _ hw)
    rw [Lib.join_cons, List.length_append]
    simp only [List.length_cons, List.length_nil] at h1 g2
    omega
end Go.Proofs.Ytllaacpkpofbiaa
