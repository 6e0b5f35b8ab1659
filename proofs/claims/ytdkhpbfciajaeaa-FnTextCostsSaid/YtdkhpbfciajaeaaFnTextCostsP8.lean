/-
  Plain lemmas on these functions. No conditions but those that each states.
-/
import Derived.Test.YtdkhpbfciajaeaaFnTextCostsP7
namespace Go.Proofs.Ytdkhpbfciajaeaa
set_option linter.unusedVariables false
set_option linter.unusedSimpArgs false
/-! Boards, layouts, places, costs. -/
def BL (bd : List Place) : Prop := 1 ≤ bd.length ∧ bd.length ≤ 5 ∧ ∀ p ∈ bd, 0 ≤ p.finger ∧ p.finger ≤ 7 ∧ 0 ≤ p.row ∧ p.row ≤ 3 ∧ 1 ≤ p.effort ∧ p.effort ≤ 6
/-- a layout -/
def LY (n : Nat) (L : Str) : Prop := L.length = n ∧ L.Nodup ∧ ∀ c ∈ L, 32 ≤ c.toNat ∧ c.toNat ≤ 126
theorem LY.perm {n : Nat} {L M : Str} (h : LY n L) (hp : M.Perm L) : LY n M := ⟨by rw [hp.length_eq]; exact h.1, hp.nodup_iff.2 h.2.1, fun c hc => h.2.2 c (hp.mem_iff.1 hc)⟩
theorem board_l1 {code : List UInt8} (s : L00Src) (hs : s.code = code) (kj : Int → Int → List Place → Option (List Place × L00Src)) (Q : List Place × L00Src → Prop) : ∀ (n N : Nat) (a sd hi : Int) (l : List Place), n < N → 0 ≤ a → a ≤ hi → hi + 6 * n ≤ 1000000 → l.length + n ≤ 5 → (∀ p ∈ l, 0 ≤ p.finger ∧ p.finger ≤ 7 ∧ 0 ≤ p.row ∧ p.row ≤ 3 ∧ 1 ≤ p.effort ∧ p.effort ≤ 6) →
    (∀ a' sd' l', l'.length = l.length + n → (∀ p ∈ l', 0 ≤ p.finger ∧ p.finger ≤ 7 ∧ 0 ≤ p.row ∧ p.row ≤ 3 ∧ 1 ≤ p.effort ∧ p.effort ≤ 6) → ∃ r, kj a' sd' l' = some r ∧ Q r) → ∃ r, s_l07Draw_l1 kj s N a sd l (n : Int) = some r ∧ Q r := by
  intro n
  induction n with
  | zero =>
    intro N a sd hi l hN h0 h1 h2 h3 h4 k
    obtain ⟨N, rfl⟩ := pos_fuel hN
    have hz : ¬ ((0 : Nat) : Int) > 0 := by omega
    simp only [s_l07Draw_l1, hz, decide_false, cond_false]
    exact k a sd l (by omega) h4
  | succ n ih =>
    intro N a sd hi l hN h0 h1 h2 h3 h4 k
    obtain ⟨N, rfl⟩ := pos_fuel hN
    have hz : ((n + 1 : Nat) : Int) > 0 := by omega
    have e2 : w64 (((n + 1 : Nat) : Int) - 1) = (n : Int) := by rw [w64_id (by omega) (by omega)]; omega
    simp only [s_l07Draw_l1, hz, decide_true, cond_true, e2]
    refine bindE (pickA (code := code) (hi := hi) 8 ⟨hs, h0, h1⟩ (by omega)) fun v1 g1 => ?_
    refine bindE (pickA (code := code) (hi := hi + 2) 4 ⟨hs, g1.1.2⟩ (by omega)) fun v2 g2 => ?_
    refine bindE (pickA (code := code) (hi := hi + 2 + 2) 6 ⟨hs, g2.1.2⟩ (by omega)) fun v3 g3 => ?_
    have a1 := g1.2.1; have c1 := g1.2.2 (by omega)
    have a2 := g2.2.1; have c2 := g2.2.2 (by omega)
    have a3 := g3.2.1; have c3 := g3.2.2 (by omega)
    refine appE (by unfold LIM; simp; omega) ?_
    refine ih N _ _ (hi + 6) _ (by omega) g3.1.2.1 (by have := g3.1.2.2; omega) (by omega) (by simp; omega) (fun p hp => ?_) (fun a' sd' l' q1 q2 => k a' sd' l' (by simp at q1; omega) q2)
    rcases List.mem_append.1 hp with hp | hp
    · exact h4 p hp
    · rw [List.mem_singleton.1 hp]
      have : w64 (1 + v3.1) = 1 + v3.1 := w64_id (by omega) (by omega)
      exact ⟨a1, by show v1.1 ≤ 7; omega, a2, by show v2.1 ≤ 3; omega, by show 1 ≤ w64 (1 + v3.1); omega, by show w64 (1 + v3.1) ≤ 6; omega⟩
theorem board_ok (code : List UInt8) (N : Nat) (hN : 20 < N) : ∃ bd, s_A2Board N code = some bd ∧ BL bd := by
  unfold s_A2Board s_l07Draw
  rw [fromA]
  simp only [Option.bind_some, withK_eq]
  have key : ∃ r, ((s_l00Src_pick (L00Src.mk code 0 0) 5).bind fun r12 => s_l07Draw_l1 (fun (x6 : Int) (x7 : Int) (l8 : List Place) => some (l8, (L00Src.mk code x6 x7))) (L00Src.mk code 0 0) N r12.2.at_ r12.2.seed [] (w64 (1 + r12.1))) = some r ∧ BL r.1 := by
    refine bindE (pickA (code := code) (hi := 0) 5 ⟨rfl, Int.le_refl _, Int.le_refl _⟩ (by omega)) fun v g => ?_
    have c := g.2.2 (by omega)
    obtain ⟨k, hk⟩ := Int.eq_ofNat_of_zero_le g.2.1
    have e : w64 (1 + v.1) = ((k + 1 : Nat) : Int) := by rw [w64_id (by omega) (by omega)]; omega
    rw [e]
    exact board_l1 (code := code) (L00Src.mk code 0 0) rfl _ (fun r => BL r.1) (k + 1) N _ _ 2 [] (by omega) g.1.2.1 (by have := g.1.2.2; omega) (by omega) (by simp; omega) (fun p hp => by cases hp)
      (fun a' sd' l' q1 q2 => ⟨_, rfl, by show 1 ≤ l'.length; omega, by show l'.length ≤ 5; simp at q1; omega, q2⟩)
  obtain ⟨r, e, h⟩ := key
  rw [e]
  exact ⟨_, rfl, h⟩
theorem letters_l1 {code : List UInt8} (s : L00Src) (hs : s.code = code) (L : Str) (hL : 1 ≤ L.length) (hL6 : L.length ≤ 6) (kj : Int → Int → List UInt8 → Option (Str × Str × L00Src)) (Q : Str × Str × L00Src → Prop) : ∀ (n N : Nat) (a sd hi : Int) (l : List UInt8), n < N → 0 ≤ a → a ≤ hi → hi + 2 * n ≤ 1000000 → l.length + n ≤ 19 → (∀ c ∈ l, c ∈ L) →
    (∀ a' sd' l', l'.length ≤ 19 → (∀ c ∈ l', c ∈ L) → ∃ r, kj a' sd' l' = some r ∧ Q r) → ∃ r, s_l07Letters_l1 kj s L N a sd l (n : Int) = some r ∧ Q r := by
  intro n
  induction n with
  | zero =>
    intro N a sd hi l hN h0 h1 h2 h3 h4 k
    obtain ⟨N, rfl⟩ := pos_fuel hN
    have hz : ¬ ((0 : Nat) : Int) > 0 := by omega
    simp only [s_l07Letters_l1, hz, decide_false, andO_false, Option.bind_some, cond_false]
    exact k a sd l (by omega) h4
  | succ n ih =>
    intro N a sd hi l hN h0 h1 h2 h3 h4 k
    obtain ⟨N, rfl⟩ := pos_fuel hN
    have hz : ((n + 1 : Nat) : Int) > 0 := by omega
    have hz2 : (L.length : Int) > 0 := by omega
    have e2 : w64 (((n + 1 : Nat) : Int) - 1) = (n : Int) := by rw [w64_id (by omega) (by omega)]; omega
    simp only [s_l07Letters_l1, hz, hz2, decide_true, andO_true, Option.bind_some, cond_true, e2]
    refine bindE (pickA (code := code) (hi := hi) (L.length : Int) ⟨hs, h0, h1⟩ (by omega)) fun v1 g1 => ?_
    have c1 := g1.2.2 (by omega)
    rw [idx_int L v1.1 g1.2.1 c1, Option.bind_some]
    refine appE (by unfold LIM; simp; omega) ?_
    refine ih N _ _ (hi + 2) _ (by omega) g1.1.2.1 g1.1.2.2 (by omega) (by simp; omega) (fun c hc => ?_) k
    rcases List.mem_append.1 hc with hc | hc
    · exact h4 c hc
    · rw [List.mem_singleton.1 hc]; exact List.getElem_mem _
theorem letters_ok (code : List UInt8) (n : Nat) (h1 : 1 ≤ n) (h5 : n ≤ 5) (N : Nat) (hN : 50 < N) : ∃ v, s_A2Layout N code (n : Int) = some v ∧ LY n v.1 ∧ v.2.length ≤ 19 ∧ ∀ c ∈ v.2, c ∈ v.1 := by
  unfold s_A2Layout s_l07Letters
  rw [fromA]
  simp only [Option.bind_some, withK_eq]
  have hmin : s_l00Min (n : Int) 6 = some (n : Int) := by unfold s_l00Min; rw [decide_eq_true (by omega)]; rfl
  rw [hmin]
  simp only [Option.bind_some]
  have key : ∃ r, ((s_l00Src_text (L00Src.mk code 0 0) [[97, 98, 99, 100, 101, 102], [102, 101, 100, 99, 98, 97], [101, 97, 116, 32, 115, 110], [122, 121, 120, 119, 118, 117]]).bind fun r7 =>
      (sub r7.1 0 (n : Int)).bind fun s11 => (s_l00Src_pick (L00Src.mk code r7.2.at_ r7.2.seed) 20).bind fun r20 =>
      s_l07Letters_l1 (fun (x14 : Int) (x15 : Int) (l16 : List UInt8) => some (s11, l16, (L00Src.mk code x14 x15))) (L00Src.mk code 0 0) s11 N r20.2.at_ r20.2.seed [] r20.1) = some r ∧ (LY n r.1 ∧ r.2.1.length ≤ 19 ∧ ∀ c ∈ r.2.1, c ∈ r.1) := by
    refine bindE (textA (code := code) (hi := 0) _ (by simp) ⟨rfl, Int.le_refl _, Int.le_refl _⟩ (by omega)) fun v1 g1 => ?_
    have hall : ∀ x ∈ ([[97, 98, 99, 100, 101, 102], [102, 101, 100, 99, 98, 97], [101, 97, 116, 32, 115, 110], [122, 121, 120, 119, 118, 117]] : List Str), x.length = 6 ∧ x.Nodup ∧ ∀ c ∈ x, 32 ≤ c.toNat ∧ c.toNat ≤ 126 := by decide
    obtain ⟨q1, q2, q3⟩ := hall _ g1.2
    have hsub : sub v1.1 0 (n : Int) = some (v1.1.take n) := by rw [sub_some _ 0 _ (by omega) (by omega) (by omega)]; simp
    rw [hsub, Option.bind_some]
    have hly : LY n (v1.1.take n) := ⟨by rw [List.length_take]; omega, q2.sublist (List.take_sublist _ _), fun c hc => q3 c (List.mem_of_mem_take hc)⟩
    refine bindE (pickA (code := code) (hi := 2) 20 ⟨rfl, g1.1.2⟩ (by omega)) fun v2 g2 => ?_
    have c2 := g2.2.2 (by omega)
    obtain ⟨k, hk⟩ := Int.eq_ofNat_of_zero_le g2.2.1
    rw [hk]
    exact letters_l1 (code := code) (L00Src.mk code 0 0) rfl (v1.1.take n) (by rw [hly.1]; exact h1) (by rw [hly.1]; omega) _ _ k N _ _ 4 [] (by omega) g2.1.2.1 (by have := g2.1.2.2; omega) (by omega) (by simp; omega) (fun c hc => by cases hc)
      (fun a' sd' l' w1 w2 => ⟨_, rfl, hly, w1, w2⟩)
  obtain ⟨r, e, h⟩ := key
  rw [e]
  exact ⟨_, rfl, h⟩
/-- where a letter stands -/
def ix : Str → UInt8 → Nat
  | [], _ => 0
  | a :: l, c => if a = c then 0 else ix l c + 1
theorem ix_get : ∀ (L : Str) (c : UInt8), c ∈ L → L[ix L c]? = some c
  | [], _, h => by cases h
  | a :: l, c, h => by
    unfold ix
    by_cases e : a = c
    · rw [if_pos e, e]; rfl
    · rw [if_neg e, List.getElem?_cons_succ]
      rcases List.mem_cons.1 h with rfl | h
      · exact absurd rfl e
      · exact ix_get l c h
theorem ix_lt (L : Str) (c : UInt8) (h : c ∈ L) : ix L c < L.length := lt_of_some (ix_get L c h)
theorem ix_min : ∀ (L : Str) (c : UInt8) (j : Nat), j < ix L c → L[j]? ≠ some c
  | [], _, _, h => by simp [ix] at h
  | a :: l, c, j, h => by
    unfold ix at h
    by_cases e : a = c
    · rw [if_pos e] at h; omega
    · rw [if_neg e] at h
      cases j with
      | zero => simpa using e
      | succ j => rw [List.getElem?_cons_succ]; exact ix_min l c j (by omega)
theorem ix_uniq (L : Str) (hL : L.Nodup) (c : UInt8) (j : Nat) (h : L[j]? = some c) : j = ix L c := by
  have hm : c ∈ L := List.mem_of_getElem? h
  have h2 := ix_get L c hm
  have hp := List.pairwise_iff_getElem.1 hL
  have l1 := lt_of_some h
  have l2 := lt_of_some h2
  rw [List.getElem?_eq_getElem l1] at h
  rw [List.getElem?_eq_getElem l2] at h2
  have h := Option.some.inj h
  have h2 := Option.some.inj h2
  rcases Nat.lt_trichotomy j (ix L c) with g | g | g
  · exact absurd (h.trans h2.symm) (hp j _ l1 l2 g)
  · exact g
  · exact absurd (h2.trans h.symm) (hp _ j l2 l1 g)
def pls (L : Str) (t : Str) : List Int := t.map fun c => (ix L c : Int)
theorem places_l2 (L t : Str) (hL : L.Nodup) (hl : L.length ≤ 100) (x : Nat) (c : UInt8) (hx : t[x]? = some c) (hc : c ∈ L) (kj : Int → Option (List Int × Bool)) : ∀ (q k N : Nat) (a : Int), k + q = L.length → q < N → (k ≤ ix L c ∨ a = (ix L c : Int)) → i_placesOf_l2 kj L t (x : Int) N a (k : Int) = kj (ix L c : Int) := by
  intro q
  induction q with
  | zero =>
    intro k N a hk hN h
    obtain ⟨N, rfl⟩ := pos_fuel hN
    have hz : ¬ (k : Int) < (L.length : Int) := by omega
    simp only [i_placesOf_l2, hz, decide_false, cond_false]
    have := ix_lt L c hc
    rcases h with h | h
    · omega
    · rw [h]
  | succ q ih =>
    intro k N a hk hN h
    obtain ⟨N, rfl⟩ := pos_fuel hN
    have hz : (k : Int) < (L.length : Int) := by omega
    have hlt : k < L.length := by omega
    simp only [i_placesOf_l2, hz, decide_true, cond_true, withK_eq]
    rw [idx_lt L k hlt, Option.bind_some, idx_nat, hx, Option.bind_some, w64_nat k (by omega)]
    by_cases e : L[k] = c
    · have := ix_uniq L hL c k (by rw [List.getElem?_eq_getElem hlt, e])
      have hb : (L[k] == c) = true := by rw [e]; exact beq_self_eq_true c
      rw [hb, cond_true]
      exact ih (k + 1) N _ (by omega) (by omega) (.inr (by omega))
    · have hb : (L[k] == c) = false := by rw [beq_eq_false_iff_ne]; exact e
      rw [hb, cond_false]
      refine ih (k + 1) N _ (by omega) (by omega) ?_
      rcases h with h | h
      · by_cases hki : k = ix L c
        · have := ix_get L c hc
          rw [← hki, List.getElem?_eq_getElem hlt] at this
          exact absurd (Option.some.inj this) e
        · exact .inl (by omega)
      · exact .inr h
theorem places_l1 (L t : Str) (hL : L.Nodup) (hl : L.length ≤ 6) (ht : t.length ≤ 19) (hm : ∀ c ∈ t, c ∈ L) (kj : List Int → Option (List Int × Bool)) : ∀ (q x N : Nat), x + q = t.length → q + 20 < N → i_placesOf_l1 kj L t N (pls L (t.take x)) (x : Int) = kj (pls L t) := by
  intro q
  induction q with
  | zero =>
    intro x N hx hN
    obtain ⟨N, rfl⟩ := pos_fuel (show 0 < N by omega)
    have hz : ¬ (x : Int) < (t.length : Int) := by omega
    simp only [i_placesOf_l1, hz, decide_false, cond_false]
    rw [List.take_of_length_le (by omega)]
  | succ q ih =>
    intro x N hx hN
    obtain ⟨N, rfl⟩ := pos_fuel (show 0 < N by omega)
    have hz : (x : Int) < (t.length : Int) := by omega
    have hlt : x < t.length := by omega
    simp only [i_placesOf_l1, hz, decide_true, cond_true, withK_eq]
    have e2 := places_l2 L t hL (by omega) x t[x] (List.getElem?_eq_getElem hlt) (hm _ (List.getElem_mem hlt)) (fun at16 => bif decide (at16 < 0) then some ([], false) else (app (pls L (t.take x)) [at16]).bind fun l32 => i_placesOf_l1 kj L t N l32 (w64 ((x : Int) + 1))) L.length 0 N (-1) (by omega) (by omega) (.inl (Nat.zero_le _))
    rw [show ((0 : Nat) : Int) = 0 from rfl] at e2
    rw [e2, decide_eq_false (by omega), cond_false, app_some _ _ (by unfold LIM pls; simp; omega), Option.bind_some, w64_nat x (by omega)]
    have e3 : pls L (t.take x) ++ [(ix L t[x] : Int)] = pls L (t.take (x + 1)) := by
      unfold pls; rw [List.take_succ_eq_append_getElem hlt, List.map_append]; rfl
    rw [e3]
    exact ih (x + 1) N (by omega) (by omega)
theorem places_ok (L t : Str) (hL : L.Nodup) (hl : L.length ≤ 6) (ht : t.length ≤ 19) (hm : ∀ c ∈ t, c ∈ L) (N : Nat) (hN : 50 < N) : i_placesOf N L t = some (pls L t, true) := by
  unfold i_placesOf
  simp only [withK_eq]
  have := places_l1 L t hL hl ht hm (fun l4 => some (l4, decide ((t.length : Int) ≤ 400))) t.length 0 N (by omega) (by omega)
  rw [show ((0 : Nat) : Int) = 0 from rfl] at this
  rw [show pls L (t.take 0) = [] from rfl] at this
  rw [this, decide_eq_true (by omega : (t.length : Int) ≤ 400)]
/-- the cost of a stroke -/
def sc (bd : List Place) (a b : Int) : Int := match idx bd a, idx bd b with
  | some p, some q => if a = b then q.effort else if p.finger = q.finger then q.effort + 10 + 5 * (if p.row - q.row < 0 then 0 - (p.row - q.row) else p.row - q.row) else if decide (p.finger ≤ 3) = decide (q.finger ≤ 3) then q.effort + 2 else q.effort
  | _, _ => 0
def ef (bd : List Place) (a : Int) : Int := match idx bd a with
  | some p => p.effort
  | none => 0
def ctR (bd : List Place) : Int → List Int → Int
  | _, [] => 0
  | p, q :: r => sc bd p q + ctR bd q r
def ct (bd : List Place) : List Int → Int
  | [] => 0
  | p :: r => ef bd p + ctR bd p r
def InP (n : Nat) (ps : List Int) : Prop := ∀ x ∈ ps, 0 ≤ x ∧ x < n
theorem sc_ok (bd : List Place) (hb : BL bd) (a b : Int) (ha : 0 ≤ a ∧ a < bd.length) (hc : 0 ≤ b ∧ b < bd.length) : i_strokeCost bd a b = some (sc bd a b) ∧ 0 ≤ sc bd a b ∧ sc bd a b ≤ 50 := by
  have e1 := idx_int bd a ha.1 ha.2
  have e2 := idx_int bd b hc.1 hc.2
  have h1 := hb.2.2 _ (List.getElem_mem (by omega : a.toNat < bd.length))
  have h2 := hb.2.2 _ (List.getElem_mem (by omega : b.toNat < bd.length))
  unfold i_strokeCost sc i_Place_isLeft i_absolute
  rw [e1, e2]
  generalize bd[a.toNat]'(by omega) = p at h1 ⊢
  generalize bd[b.toNat]'(by omega) = q at h2 ⊢
  simp only [Option.bind_some]
  by_cases hab : a = b
  · have : (a == b) = true := by rw [hab]; exact beq_self_eq_true b
    rw [this, cond_true, if_pos hab]
    exact ⟨rfl, by omega, by omega⟩
  · have : (a == b) = false := by rw [beq_eq_false_iff_ne]; exact hab
    rw [this, cond_false, if_neg hab]
    by_cases hf : p.finger = q.finger
    · have : (p.finger == q.finger) = true := by rw [hf]; exact beq_self_eq_true _
      rw [this, cond_true, if_pos hf, w64_id (x := p.row - q.row) (by omega) (by omega)]
      by_cases hr : p.row - q.row < 0
      · rw [decide_eq_true hr, cond_true, if_pos hr, Option.bind_some, w64_id (x := 0 - (p.row - q.row)) (by omega) (by omega), w64_id (x := q.effort + 10) (by omega) (by omega), w64_id (x := 5 * (0 - (p.row - q.row))) (by omega) (by omega), w64_id (by omega) (by omega)]
        exact ⟨rfl, by omega, by omega⟩
      · rw [decide_eq_false hr, cond_false, if_neg hr, Option.bind_some, w64_id (x := q.effort + 10) (by omega) (by omega), w64_id (x := 5 * (p.row - q.row)) (by omega) (by omega), w64_id (by omega) (by omega)]
        exact ⟨rfl, by omega, by omega⟩
    · have : (p.finger == q.finger) = false := by rw [beq_eq_false_iff_ne]; exact hf
      rw [this, cond_false, if_neg hf]
      by_cases hl : decide (p.finger ≤ 3) = decide (q.finger ≤ 3)
      · have : (decide (p.finger ≤ 3) == decide (q.finger ≤ 3)) = true := by rw [hl]; exact beq_self_eq_true _
        rw [this, cond_true, if_pos hl, w64_id (by omega) (by omega)]
        exact ⟨rfl, by omega, by omega⟩
      · have : (decide (p.finger ≤ 3) == decide (q.finger ≤ 3)) = false := by rw [beq_eq_false_iff_ne]; exact hl
        rw [this, cond_false, if_neg hl]
        exact ⟨rfl, by omega, by omega⟩
theorem ef_ok (bd : List Place) (hb : BL bd) (a : Int) (ha : 0 ≤ a ∧ a < bd.length) : (∃ p, idx bd a = some p ∧ p.effort = ef bd a) ∧ 0 ≤ ef bd a ∧ ef bd a ≤ 50 := by
  have e1 := idx_int bd a ha.1 ha.2
  have h1 := hb.2.2 _ (List.getElem_mem (by omega : a.toNat < bd.length))
  unfold ef
  rw [e1]
  exact ⟨⟨_, rfl, rfl⟩, by show 0 ≤ (bd[a.toNat]'(by omega)).effort; omega, by show (bd[a.toNat]'(by omega)).effort ≤ 50; omega⟩
theorem cost_l1 (bd : List Place) (hb : BL bd) (ps : List Int) (hp : InP bd.length ps) (hl : ps.length ≤ 100) (kj : Int → Option Int) : ∀ (q x N : Nat) (s : Int) (p : Int), x + q = ps.length → 1 ≤ x → ps[x - 1]? = some p → q < N → 0 ≤ s → s ≤ 50 * x → i_placesCost_l1 kj bd ps N s (x : Int) = kj (s + ctR bd p (ps.drop x)) := by
  intro q
  induction q with
  | zero =>
    intro x N s p hx h1 hpx hN h0 hs
    obtain ⟨N, rfl⟩ := pos_fuel hN
    have hz : ¬ (x : Int) < (ps.length : Int) := by omega
    simp only [i_placesCost_l1, hz, decide_false, cond_false]
    rw [List.drop_eq_nil_of_le (by omega)]
    simp [ctR]
  | succ q ih =>
    intro x N s p hx h1 hpx hN h0 hs
    obtain ⟨N, rfl⟩ := pos_fuel hN
    have hz : (x : Int) < (ps.length : Int) := by omega
    have hlt : x < ps.length := by omega
    have hz0 : ((x : Int) == 0) = false := by rw [beq_eq_false_iff_ne]; omega
    have hx1 : w64 ((x : Int) - 1) = ((x - 1 : Nat) : Int) := by rw [w64_id (by omega) (by omega)]; omega
    obtain ⟨e1, e2, e3⟩ := sc_ok bd hb p ps[x] (hp p (List.mem_of_getElem? hpx)) (hp _ (List.getElem_mem hlt))
    simp only [i_placesCost_l1, hz, decide_true, cond_true, withK_eq, hz0, cond_false]
    rw [idx_lt ps x hlt, Option.bind_some, hx1, idx_nat, hpx, Option.bind_some, e1, Option.bind_some, w64_nat x (by omega), w64_id (x := s + sc bd p ps[x]) (by omega) (by omega), ih (x + 1) N _ ps[x] (by omega) (by omega) (by rw [Nat.add_sub_cancel, List.getElem?_eq_getElem hlt]) (by omega) (by omega) (by omega), List.drop_eq_getElem_cons hlt]
    simp only [ctR]
    rw [Int.add_assoc]
theorem cost_ok (bd : List Place) (hb : BL bd) (ps : List Int) (hp : InP bd.length ps) (hl : ps.length ≤ 100) (N : Nat) (hN : 200 < N) : i_placesCost N bd ps = some (ct bd ps) := by
  unfold i_placesCost
  simp only [withK_eq]
  cases ps with
  | nil =>
    obtain ⟨N, rfl⟩ := pos_fuel (show 0 < N by omega)
    simp [i_placesCost_l1, ct]
  | cons p r =>
    obtain ⟨N, rfl⟩ := pos_fuel (show 0 < N by omega)
    have hz : (0 : Int) < ((p :: r).length : Int) := by rw [List.length_cons]; omega
    obtain ⟨⟨pl, e1, e2⟩, e3, e4⟩ := ef_ok bd hb p (hp p List.mem_cons_self)
    have hi : idx (p :: r) 0 = some p := rfl
    simp only [i_placesCost_l1, hz, decide_true, cond_true, withK_eq, beq_self_eq_true]
    rw [hi, Option.bind_some, e1, Option.bind_some, e2, w64_id (x := 0 + ef bd p) (by omega) (by omega)]
    have h1 : w64 ((0 : Int) + 1) = ((1 : Nat) : Int) := rfl
    rw [h1, cost_l1 bd hb (p :: r) hp hl (fun s => some s) r.length 1 N _ p (by simp; omega) (by omega) rfl (by simp at hl; omega) (by omega) (by omega)]
    simp [ct]
theorem ctR_rng (bd : List Place) (hb : BL bd) : ∀ (r : List Int) (p : Int), 0 ≤ p ∧ p < bd.length → InP bd.length r → 0 ≤ ctR bd p r ∧ ctR bd p r ≤ 50 * r.length
  | [], _, _, _ => by simp [ctR]
  | q :: r, p, hp, h => by
    have hq := h q List.mem_cons_self
    have h1 := ctR_rng bd hb r q hq fun x hx => h x (List.mem_cons_of_mem _ hx)
    have h2 := (sc_ok bd hb p q hp hq).2
    simp only [ctR, List.length_cons]; omega
theorem ct_rng (bd : List Place) (hb : BL bd) (r : List Int) (h : InP bd.length r) : 0 ≤ ct bd r ∧ ct bd r ≤ 50 * r.length := by
  cases r with
  | nil => simp [ct]
  | cons p r =>
    have hp := h p List.mem_cons_self
    have h1 := ctR_rng bd hb r p hp fun x hx => h x (List.mem_cons_of_mem _ hx)
    have h2 := (ef_ok bd hb p hp).2
    simp only [ct, List.length_cons]; omega
theorem pls_in (n : Nat) (L t : Str) (hL : L.length = n) (hm : ∀ c ∈ t, c ∈ L) : InP n (pls L t) := fun x hx => by
  obtain ⟨c, hc, rfl⟩ := List.mem_map.1 hx
  have := ix_lt L c (hm c hc)
  omega
end Go.Proofs.Ytdkhpbfciajaeaa
