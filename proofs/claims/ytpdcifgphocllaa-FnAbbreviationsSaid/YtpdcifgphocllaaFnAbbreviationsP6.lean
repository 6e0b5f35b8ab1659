/-
  Plain lemmas on these functions. No conditions but those that each states.
-/
import Derived.Test.YtpdcifgphocllaaFnAbbreviationsP5
namespace Go.Proofs.Ytpdcifgphocllaa
set_option linter.unusedVariables false
set_option linter.unusedSimpArgs false
/-! The words of a note. -/
theorem joinTail_cons (sep x : Str) (r : List Str) : Lib.joinTail sep (x :: r) = sep ++ x ++ Lib.joinTail sep r := by simp [Lib.joinTail]
theorem join_joi : ∀ W : List Str, Lib.join W [32] = joi 32 W
  | [] => rfl
  | [w] => Lib.join_one w [32]
  | w :: v :: r => by
    have ih := join_joi (v :: r)
    rw [Lib.join_cons] at ih
    rw [Lib.join_cons, joinTail_cons, joi, ← ih]
    simp
theorem sw_sp : ∀ W : List Str, (∀ w ∈ W, w ≠ [] ∧ ∀ c ∈ w, c ≠ 32) → sw (joi 32 W) [] = W
  | [], _ => rfl
  | [w], h => by
    obtain ⟨h1, h2⟩ := h w (by simp)
    have := sw_word w h2 [] []
    simp only [List.append_nil, List.nil_append] at this
    show sw w [] = [w]
    rw [this, sw, if_neg h1]
  | w :: v :: r, h => by
    obtain ⟨h1, h2⟩ := h w (by simp)
    have ih := sw_sp (v :: r) fun x hx => h x (List.mem_cons_of_mem _ hx)
    rw [joi, sw_word w h2, List.nil_append, sw, if_pos rfl, if_neg h1, ih]
theorem spl_joi : ∀ W : List Str, W ≠ [] → (∀ w ∈ W, ∀ c ∈ w, c ≠ 32) → spl 32 (joi 32 W) = W
  | [w], _, h => spl_last 32 w fun hm => h w (by simp) 32 hm rfl
  | w :: v :: r, _, h => by
    rw [joi, spl_word 32 w _ fun hm => h w (by simp) 32 hm rfl, spl_joi (v :: r) (by simp) fun x hx => h x (List.mem_cons_of_mem _ hx)]
structure WT (t : Str) (W : List Str) : Prop where
  s : ∀ w ∈ W, swB 30 w = true
  j : joi 32 W = t
  l : t.length ≤ 200
theorem swB_ne {m : Nat} {w : Str} (h : swB m w = true) : w ≠ [] ∧ ∀ c ∈ w, c ≠ 32 := by
  obtain ⟨h1, h2, _⟩ := swB_iff.1 h
  exact ⟨fun e => by rw [e] at h2; simp at h2, fun c hc => (smc_ne (h1 c hc)).1⟩
theorem WT.spl {t : Str} {W : List Str} (h : WT t W) (ht : t ≠ []) : spl 32 t = W := by
  have hW : W ≠ [] := fun e => by rw [e] at h; exact ht h.j.symm
  rw [← h.j, spl_joi W hW fun w hw => (swB_ne (h.s w hw)).2]
theorem WT.sw {t : Str} {W : List Str} (h : WT t W) : Ytpdcifgphocllaa.sw t [] = W := by
  rw [← h.j, sw_sp W fun w hw => swB_ne (h.s w hw)]
theorem WT.uniq {t : Str} {W V : List Str} (h : WT t W) (k : WT t V) : W = V := by rw [← h.sw, k.sw]
theorem sw_sz : ∀ (s cur : Str), (sw s cur).length ≤ s.length + 1 ∧ ∀ w ∈ sw s cur, w.length ≤ s.length + cur.length
  | [], cur => by
    simp only [sw]
    split
    · exact ⟨by simp, fun w h => by cases h⟩
    · exact ⟨by simp, fun w h => by rw [List.mem_singleton.1 h]; simp⟩
  | c :: r, cur => by
    simp only [sw]
    split
    · obtain ⟨a, b⟩ := sw_sz r []
      split
      · exact ⟨by simp only [List.length_cons]; omega, fun w h => by have := b w h; simp only [List.length_cons, List.length_nil] at this ⊢; omega⟩
      · refine ⟨by simp only [List.length_cons]; omega, fun w h => ?_⟩
        rcases List.mem_cons.1 h with rfl | h
        · simp only [List.length_cons]; omega
        · have := b w h; simp only [List.length_cons, List.length_nil] at this ⊢; omega
    · obtain ⟨a, b⟩ := sw_sz r (cur ++ [c])
      exact ⟨by simp only [List.length_cons]; omega, fun w h => by have := b w h; simp only [List.length_append, List.length_cons, List.length_nil] at this ⊢; omega⟩
theorem spl_sz (c : UInt8) : ∀ s : Str, ∀ w ∈ spl c s, w.length ≤ s.length
  | [], w, h => by
    have : w = [] := by simpa [spl] using h
    subst this; simp
  | x :: s, w, h => by
    obtain ⟨a, t, e⟩ := spl_ne c s
    have ih := spl_sz c s
    by_cases hx : x = c
    · subst hx
      rw [spl_cons_eq] at h
      rcases List.mem_cons.1 h with rfl | h
      · simp
      · have := ih w h; simp only [List.length_cons]; omega
    · rw [spl_cons_ne c x s hx a t e] at h
      rw [e] at ih
      rcases List.mem_cons.1 h with rfl | h
      · have := ih a List.mem_cons_self; simp only [List.length_cons]; omega
      · have := ih w (List.mem_cons_of_mem _ h); simp only [List.length_cons]; omega
theorem nw_i1 (W : List Str) (hl : W.length ≤ 1000) (hw : ∀ w ∈ W, w.length ≤ 1000) (kj : Option (List Str × Bool)) : ∀ (q x N : Nat), x + q = W.length → q + 1100 < N → i_noteWords_l1 kj W N (x : Int) = (bif (W.drop x).all (swB 30) then kj else some ([], false)) ∧ s_l16Words_l1 kj W N (x : Int) = (bif (W.drop x).all (swB 30) then kj else some ([], false)) := by
  intro q
  induction q with
  | zero =>
    intro x N h1 h2
    obtain ⟨N, rfl⟩ := pos_fuel h2
    have hz : ¬ (x : Int) < (W.length : Int) := by omega
    rw [List.drop_eq_nil_of_le (by omega)]
    simp only [i_noteWords_l1, s_l16Words_l1, hz, decide_false, cond_false, List.all_nil, cond_true, and_self]
  | succ q ih =>
    intro x N h1 h2
    obtain ⟨N, rfl⟩ := pos_fuel h2
    have hx : x < W.length := by omega
    have hz : (x : Int) < (W.length : Int) := by omega
    have hwl := hw _ (List.getElem_mem hx)
    obtain ⟨i1, i2⟩ := ih (x + 1) N (by omega) (by omega)
    have v1 := sm_i W[x] (by omega) N (by omega)
    have v2 := sm_s 30 W[x] (by omega) N (by omega)
    rw [show ((30 : Nat) : Int) = 30 from rfl] at v2
    rw [drop_cons _ x hx, List.all_cons]
    simp only [i_noteWords_l1, s_l16Words_l1, hz, decide_true, cond_true, idx_lt W x hx, Option.bind_some, v1, v2, w64_nat x (by omega), i1, i2]
    cases swB 30 W[x]
    · exact ⟨rfl, rfl⟩
    · simp only [Bool.not_true, cond_false, Bool.true_and, and_self]
theorem jt_len : ∀ r : List Str, (∀ w ∈ r, w.length ≤ 30) → (Lib.joinTail [32] r).length ≤ 31 * r.length
  | [], _ => by simp [Lib.joinTail]
  | x :: r, h => by
    have h1 := h x List.mem_cons_self
    have h2 := jt_len r fun y hy => h y (List.mem_cons_of_mem _ hy)
    rw [joinTail_cons]
    simp only [List.length_append, List.length_cons, List.length_nil]
    omega
theorem joinO_small (W : List Str) (hl : W.length ≤ 1000) (h : ∀ w ∈ W, w.length ≤ 30) : joinO W [32] = some (joi 32 W) := by
  unfold joinO
  rw [if_pos, join_joi]
  refine ⟨by unfold LIM; omega, ?_⟩
  cases W with
  | nil => simp [Lib.join_nil]
  | cons x r =>
    have h1 := h x List.mem_cons_self
    have h2 := jt_len r fun y hy => h y (List.mem_cons_of_mem _ hy)
    simp only [List.length_cons] at hl
    rw [Lib.join_cons, List.length_append]
    unfold LIM; omega
theorem note_i (t : Str) (N : Nat) (hN : 3000 < N) : ∃ W b, i_noteWords N t = some (W, b) ∧ (b = true → WT t W) ∧ ∀ V, WT t V → b = true := by
  unfold i_noteWords
  by_cases h : t.length ≤ 200
  · have hd : decide ((t.length : Int) > 200) = false := decide_eq_false (by omega)
    obtain ⟨s1, s2⟩ := sw_sz t []
    simp only [List.length_nil, Nat.add_zero] at s2
    rw [hd, cond_false, split_ok t h N (by omega), Option.bind_some, withK_n]
    have hl := fun kj => (nw_i1 (sw t []) (by omega) (fun w hw => by have := s2 w hw; omega) kj (sw t []).length 0 N (by omega) (by omega)).1
    rw [show ((0 : Nat) : Int) = 0 from rfl, List.drop_zero] at hl
    rw [hl]
    cases ha : (sw t []).all (swB 30) with
    | false =>
      refine ⟨[], false, rfl, fun h => by (cases h), fun V hV => ?_⟩
      rw [hV.sw] at ha
      rw [List.all_eq_true.2 hV.s] at ha; cases ha
    | true =>
      have ha := List.all_eq_true.1 ha
      rw [cond_true, joinO_small _ (by omega) (fun w hw => (swB_iff.1 (ha w hw)).2.2), Option.bind_some]
      refine ⟨_, _, rfl, fun hb => ⟨ha, by simpa using hb, h⟩, fun V hV => ?_⟩
      rw [hV.sw]; simpa using hV.j
  · have hd : decide ((t.length : Int) > 200) = true := decide_eq_true (by omega)
    rw [hd]
    exact ⟨[], false, rfl, fun h => by (cases h), fun V hV => absurd hV.l h⟩
theorem note_s (t : Str) (ht : t.length ≤ 900) (N : Nat) (hN : 3000 < N) : ∃ W b, s_l16Words N t = some (W, b) ∧ (b = true → WT t W) ∧ ∀ V, WT t V → b = true := by
  unfold s_l16Words
  by_cases h0 : t = []
  · subst h0
    exact ⟨[], true, rfl, fun _ => ⟨fun w h => by (cases h), rfl, by simp⟩, fun _ _ => rfl⟩
  · have hb : (t == []) = false := by simpa using h0
    have s1 := spl_len 32 t
    have s2 := spl_sz 32 t
    rw [hb, cond_false, Split_ok N t 32 (by omega) (by omega), Option.bind_some, withK_n]
    have hl := fun kj => (nw_i1 (spl 32 t) (by omega) (fun w hw => by have := s2 w hw; omega) kj (spl 32 t).length 0 N (by omega) (by omega)).2
    rw [show ((0 : Nat) : Int) = 0 from rfl, List.drop_zero] at hl
    rw [hl]
    cases ha : (spl 32 t).all (swB 30) with
    | false =>
      refine ⟨[], false, rfl, fun h => by (cases h), fun V hV => ?_⟩
      rw [hV.spl h0, List.all_eq_true.2 hV.s] at ha; cases ha
    | true =>
      have ha := List.all_eq_true.1 ha
      rw [cond_true]
      exact ⟨_, _, rfl, fun hb => ⟨ha, joi_spl 32 t, by have := of_decide_eq_true hb; omega⟩, fun V hV => decide_eq_true (by have := hV.l; omega)⟩
theorem code_ok (l : List Abbr) (hl : l.length ≤ 1000) (hz : ∀ x ∈ l, SzA x) (t : Str) (ht : t.length ≤ 900) (N : Nat) (hN : 3000 < N) : ∃ (W : List Str) (c : Int), i_noteCode N l t = some (W, c) ∧ s_l16Code N l t = some (W, c) ∧ ((c = 0 ∧ VL l ∧ WT t W) ∨ c ≠ 0) ∧ (VL l → (∃ V, WT t V) → c = 0) := by
  obtain ⟨v1, v2⟩ := vl_ok l hl hz N (by omega)
  obtain ⟨W1, b1, a1, a2, a3⟩ := note_i t N hN
  obtain ⟨W2, b2, c1, c2, c3⟩ := note_s t ht N hN
  unfold i_noteCode s_l16Code
  rw [v1, v2, a1, c1]
  simp only [Option.bind_some]
  cases hv : vL l with
  | false => exact ⟨[], 1, rfl, rfl, .inr (by decide), fun h => by rw [(vL_iff l).2 h] at hv; cases hv⟩
  | true =>
    have hV := (vL_iff l).1 hv
    simp only [Bool.not_true, cond_false]
    cases hb : b1 with
    | true =>
      have w1 := a2 hb
      have hb2 := c3 _ w1
      have w2 := c2 hb2
      rw [hb2]
      exact ⟨W1, 0, rfl, by rw [w1.uniq w2]; rfl, .inl ⟨rfl, hV, w1⟩, fun _ _ => rfl⟩
    | false =>
      have hb2 : b2 = false := by
        cases h : b2 with
        | false => rfl
        | true =>
          have := a3 _ (c2 h)
          rw [hb] at this; cases this
      rw [hb2]
      refine ⟨[], 7, rfl, rfl, .inr (by decide), fun _ ⟨V, h⟩ => ?_⟩
      have := a3 V h
      rw [hb] at this; cases this
theorem join_s (W : List Str) (hl : W.length ≤ 500) (h : ∀ w ∈ W, w.length ≤ 60) (N : Nat) (hN : 600 < N) : s_l16Join N W = some (joi 32 W) := by
  have loop : ∀ (q x N : Nat) (o : Str), x + q = W.length → q < N → 0 < x → o.length ≤ 61 * x → s_l16Join_l1 (fun o => some o) W N o (x : Int) = some (o ++ Lib.joinTail [32] (W.drop x)) := by
    intro q
    induction q with
    | zero =>
      intro x N o h1 h2 h3 h4
      obtain ⟨N, rfl⟩ := pos_fuel h2
      have hz : ¬ (x : Int) < (W.length : Int) := by omega
      rw [List.drop_eq_nil_of_le (by omega)]
      simp [s_l16Join_l1, hz, Lib.joinTail]
    | succ q ih =>
      intro x N o h1 h2 h3 h4
      obtain ⟨N, rfl⟩ := pos_fuel h2
      have hx : x < W.length := by omega
      have hz : (x : Int) < (W.length : Int) := by omega
      have hw := h _ (List.getElem_mem hx)
      have z0 : decide ((x : Int) > 0) = true := decide_eq_true (by omega)
      rw [drop_cons _ x hx, joinTail_cons]
      simp only [s_l16Join_l1, hz, decide_true, cond_true, withK_n, z0]
      rw [cat_some _ _ (by simp; unfold LIM; omega), Option.bind_some, idx_lt W x hx, Option.bind_some, cat_some _ _ (by simp; unfold LIM; omega), Option.bind_some, w64_nat x (by omega), ih (x + 1) N _ (by omega) (by omega) (by omega) (by simp; omega)]
      simp
  unfold s_l16Join
  rw [withK_n]
  obtain ⟨N, rfl⟩ := pos_fuel hN
  cases W with
  | nil => rfl
  | cons w r =>
    have hw := h w List.mem_cons_self
    have hz : (0 : Int) < ((w :: r : List Str).length : Int) := by simp only [List.length_cons]; omega
    have z0 : decide ((0 : Int) > 0) = false := by decide
    have ei : idx (w :: r) 0 = some w := rfl
    have := loop r.length 1 N w (by simp only [List.length_cons]; omega) (by simp only [List.length_cons] at hl; omega) (by omega) (by omega)
    rw [s_l16Join_l1, decide_eq_true hz, cond_true, withK_n, z0, cond_false]
    simp only [ei, Option.bind_some]
    rw [cat_some _ _ (by simp; unfold LIM; omega), Option.bind_some, show w64 ((0 : Int) + 1) = ((1 : Nat) : Int) from w64_nat 0 (by omega), List.nil_append, this, ← join_joi, Lib.join_cons]
    rfl
end Go.Proofs.Ytpdcifgphocllaa
