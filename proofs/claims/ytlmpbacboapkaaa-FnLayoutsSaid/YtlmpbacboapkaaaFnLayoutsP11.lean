/-
  Plain lemmas on these functions. No conditions but those that each states.
-/
import Derived.Test.YtlmpbacboapkaaaFnLayoutsP10
namespace Go.Proofs.Ytlmpbacboapkaaa
set_option linter.unusedVariables false
set_option linter.unusedSimpArgs false
/-! Drawn layouts. -/
theorem dr_l2 {code : List UInt8} (s : L00Src) (hs : s.code = code) (kj : Int → Int → List UInt8 → List UInt8 → Option (Layout × L00Src)) (Q : Layout × L00Src → Prop) : ∀ (n N : Nat) (a sd hi : Int) (l m : Str), n < N → 0 ≤ a → a ≤ hi → hi + 2 * n ≤ 1000000 → l.length + n ≤ 10 → n + 2 ≤ m.length → m.length ≤ 100 →
    (∀ a' sd' l' m', 0 ≤ a' → a' ≤ hi + 2 * n → l'.length ≤ l.length + n → m'.length + n = m.length → ∃ r, kj a' sd' l' m' = some r ∧ Q r) → ∃ r, s_l06Draw_l2 kj s N a sd l m (n : Int) = some r ∧ Q r := by
  intro n
  induction n with
  | zero =>
    intro N a sd hi l m hN h0 h1 h2 h3 h4 h5 k
    obtain ⟨N, rfl⟩ := pos_fuel hN
    have hz : ¬ ((0 : Nat) : Int) > 0 := by omega
    simp only [s_l06Draw_l2, hz, decide_false, cond_false]
    exact k a sd l m h0 (by omega) (by omega) (by omega)
  | succ n ih =>
    intro N a sd hi l m hN h0 h1 h2 h3 h4 h5 k
    obtain ⟨N, rfl⟩ := pos_fuel hN
    have hz : ((n + 1 : Nat) : Int) > 0 := by omega
    have e2 : w64 (((n + 1 : Nat) : Int) - 1) = (n : Int) := by rw [w64_id (by omega) (by omega)]; omega
    simp only [s_l06Draw_l2, hz, decide_true, cond_true, e2]
    refine bindE (pickA (code := code) (hi := hi) (m.length : Int) ⟨hs, h0, h1⟩ (by omega)) fun v g => ?_
    have gc := g.2.2 (by omega)
    obtain ⟨p, hp⟩ := Int.eq_ofNat_of_zero_le g.2.1
    rw [hp] at gc ⊢
    have hs1 : sub m 0 (p : Int) = some (m.take p) := by rw [sub_some m 0 p (by omega) (by omega) (by omega)]; simp
    have hs2 : sub m ((p + 1 : Nat) : Int) (m.length : Int) = some (m.drop (p + 1)) := by
      rw [sub_some m _ _ (by omega) (by omega) (by omega), Int.toNat_natCast, Int.toNat_natCast, List.take_of_length_le (by rw [List.length_drop]; omega)]
    have hlt : (m.take p).length + (m.drop (p + 1)).length + 1 = m.length := by rw [List.length_take, List.length_drop]; omega
    rw [idx_lt m p (by omega), Option.bind_some, app_some _ _ (by unfold LIM; simp; omega), Option.bind_some, hs1, Option.bind_some, app_some _ _ (by unfold LIM; simp; omega), Option.bind_some, w64_nat p (by omega), hs2, Option.bind_some, List.nil_append, app_some _ _ (by unfold LIM; omega), Option.bind_some]
    exact ih N _ _ (hi + 2) _ _ (by omega) g.1.2.1 g.1.2.2 (by omega) (by simp; omega) (by rw [List.length_append]; omega) (by rw [List.length_append]; omega) (fun a' sd' l' m' w1 w2 w3 w4 => k a' sd' l' m' w1 (by omega) (by rw [List.length_append, List.length_singleton] at w3; omega) (by rw [List.length_append] at w4; omega))
def LB (k : Nat) (rows : List Str) : Prop := ∀ w ∈ rows, w.length ≤ k
theorem LB.snoc {k : Nat} {rows : List Str} (h : LB k rows) {w : Str} (hw : w.length ≤ k) : LB k (rows ++ [w]) := fun x hx => by
  rcases List.mem_append.1 hx with hx | hx
  · exact h x hx
  · rw [List.mem_singleton.1 hx]; exact hw
theorem dr_l1 {code : List UInt8} (s : L00Src) (hs : s.code = code) (kj : Int → Int → List Str → Option (Layout × L00Src)) (Q : Layout × L00Src → Prop) : ∀ (n N : Nat) (a sd hi : Int) (l : List Str) (m : Str), n + 20 < N → 0 ≤ a → a ≤ hi → hi + 20 * n ≤ 1000000 → 6 * n + 2 ≤ m.length → m.length ≤ 100 → l.length + n ≤ 10 → LB 6 l →
    (∀ a' sd' l', 0 ≤ a' → a' ≤ hi + 20 * n → l'.length = l.length + n → LB 6 l' → ∃ r, kj a' sd' l' = some r ∧ Q r) → ∃ r, s_l06Draw_l1 kj s N a sd l m (n : Int) = some r ∧ Q r := by
  intro n
  induction n with
  | zero =>
    intro N a sd hi l m hN h0 h1 h2 h3 h4 h5 h6 k
    obtain ⟨N, rfl⟩ := pos_fuel (show 0 < N by omega)
    have hz : ¬ ((0 : Nat) : Int) > 0 := by omega
    simp only [s_l06Draw_l1, hz, decide_false, cond_false]
    exact k a sd l h0 (by omega) (by omega) h6
  | succ n ih =>
    intro N a sd hi l m hN h0 h1 h2 h3 h4 h5 h6 k
    obtain ⟨N, rfl⟩ := pos_fuel (show 0 < N by omega)
    have hz : ((n + 1 : Nat) : Int) > 0 := by omega
    have e2 : w64 (((n + 1 : Nat) : Int) - 1) = (n : Int) := by rw [w64_id (by omega) (by omega)]; omega
    simp only [s_l06Draw_l1, hz, decide_true, cond_true, e2, withK_eq]
    refine bindE (pickA (code := code) (hi := hi) 6 ⟨hs, h0, h1⟩ (by omega)) fun v g => ?_
    have gc := g.2.2 (by omega)
    obtain ⟨p, hp⟩ := Int.eq_ofNat_of_zero_le g.2.1
    rw [hp] at gc ⊢
    rw [show (1 : Int) + (p : Int) = ((p + 1 : Nat) : Int) by omega, w64_id (x := ((p + 1 : Nat) : Int)) (by omega) (by omega)]
    refine dr_l2 (code := code) s hs _ Q (p + 1) N _ _ (hi + 2) [] m (by omega) g.1.2.1 g.1.2.2 (by omega) (by simp; omega) (by omega) h4 fun a' sd' l' m' w1 w2 w3 w4 => ?_
    refine appE (by unfold LIM; simp; omega) ?_
    simp only [List.length_nil] at w3
    exact ih N a' sd' (hi + 2 + 2 * (p + 1 : Nat)) _ m' (by omega) w1 (by omega) (by omega) (by omega) (by omega) (by simp; omega) (h6.snoc (by omega)) (fun a2 sd2 l2 z1 z2 z3 z4 => k a2 sd2 l2 z1 (by omega) (by simp at z3; omega) z4)
theorem draw_ok {code : List UInt8} {hi : Int} {s : L00Src} (h : SrcAt code hi s) (hb : hi ≤ 1000) (N : Nat) (hN : 50 < N) : ∃ v, s_l06Draw N s = some v ∧ SrcAt code (hi + 100) v.2 ∧ 1 ≤ v.1.rows.length ∧ v.1.rows.length ≤ 3 ∧ LB 6 v.1.rows := by
  obtain ⟨hs, h0, h1⟩ := h
  unfold s_l06Draw
  rw [withK_n]
  refine bindE (pickA (code := code) (hi := hi) 3 ⟨hs, h0, h1⟩ (by omega)) fun v g => ?_
  have gc := g.2.2 (by omega)
  obtain ⟨p, hp⟩ := Int.eq_ofNat_of_zero_le g.2.1
  rw [hp] at gc ⊢
  rw [show (1 : Int) + (p : Int) = ((p + 1 : Nat) : Int) by omega, w64_id (x := ((p + 1 : Nat) : Int)) (by omega) (by omega)]
  refine dr_l1 (code := code) s hs _ (fun r => SrcAt code (hi + 100) r.2 ∧ 1 ≤ r.1.rows.length ∧ r.1.rows.length ≤ 3 ∧ LB 6 r.1.rows) (p + 1) N _ _ (hi + 2) [] _ (by omega) g.1.2.1 g.1.2.2 (by omega) (by simp; omega) (by simp) (by simp; omega) (fun w hw => by cases hw) fun a' sd' l' w1 w2 w3 w4 => ⟨_, rfl, ⟨hs, w1, by show a' ≤ hi + 100; omega⟩, ?_, ?_, w4⟩
  · show 1 ≤ l'.length
    rw [w3]; simp
  · show l'.length ≤ 3
    rw [w3]; simp; omega
def BL (v : Layout) : Prop := v.rows.length ≤ 5 ∧ LB 14 v.rows
theorem bent_ok {code : List UInt8} {hi : Int} {s : L00Src} (h : SrcAt code hi s) (hb : hi ≤ 1000) (N : Nat) (hN : 50 < N) : ∃ v, s_l06Bent N s = some v ∧ SrcAt code (hi + 200) v.2 ∧ BL v.1 := by
  unfold s_l06Bent
  simp only [withK_eq]
  have hs : s.code = code := h.1
  refine bindE (draw_ok (code := code) (s := L00Src.mk s.code s.at_ s.seed) ⟨hs, h.2⟩ hb N hN) fun v g => ?_
  obtain ⟨g1, g2, g3, g4⟩ := g
  have fin : ∀ (a sd : Int) (l : List Str), 0 ≤ a → a ≤ hi + 200 → l.length ≤ 5 → LB 14 l → ∃ r, some (Layout.mk l, L00Src.mk s.code a sd) = some r ∧ (SrcAt code (hi + 200) r.2 ∧ BL r.1) := fun a sd l w1 w2 w3 w4 => ⟨_, rfl, ⟨hs, w1, w2⟩, w3, w4⟩
  have hL14 : LB 14 v.1.rows := fun w hw => by have := g4 w hw; omega
  refine bindE (pickA (code := code) (hi := hi + 100) (s := L00Src.mk s.code v.2.at_ v.2.seed) 20 ⟨hs, g1.2⟩ (by omega)) fun v1 k1 => ?_
  refine condE (fun _ => ?_) fun _ => condE (fun _ => ?_) fun _ => condE (fun _ => ?_) fun _ => condE (fun _ => ?_) fun _ => ?_
  · have i0 : idx v.1.rows 0 = some v.1.rows[0] := idx_lt v.1.rows 0 (by omega)
    rw [i0, Option.bind_some]
    refine bindE (textA (code := code) (hi := hi + 100 + 2) (s := L00Src.mk s.code v1.2.at_ v1.2.seed) _ (by decide) ⟨hs, k1.1.2⟩ (by omega)) fun v2 k2 => ?_
    have hv2 : v2.1.length ≤ 2 := by
      have : ∀ x ∈ ([[47], [32], [113, 113], [127]] : List Str), x.length ≤ 2 := by decide
      exact this _ k2.2
    have h0l := g4 _ (List.getElem_mem (show 0 < v.1.rows.length by omega))
    rw [cat_some _ _ (by unfold LIM; omega), Option.bind_some, Option.bind_some]
    refine fin _ _ _ k2.1.2.1 (by have := k2.1.2.2; omega) (by simp; omega) fun w hw => ?_
    rcases List.mem_or_eq_of_mem_set hw with hw | rfl
    · exact hL14 w hw
    · rw [List.length_append]; omega
  · refine bindE (textA (code := code) (hi := hi + 100 + 2) (s := L00Src.mk s.code v1.2.at_ v1.2.seed) _ (by decide) ⟨hs, k1.1.2⟩ (by omega)) fun v2 k2 => ?_
    have hv2 : v2.1.length ≤ 2 := by
      have : ∀ x ∈ ([[], [43], [113]] : List Str), x.length ≤ 2 := by decide
      exact this _ k2.2
    refine appE (by unfold LIM; simp; omega) ?_
    exact fin _ _ _ k2.1.2.1 (by have := k2.1.2.2; omega) (by simp; omega) (hL14.snoc (by omega))
  · have hbig : LB 12 ([[97, 98, 99, 100, 101, 102, 103, 104, 105, 106, 107, 108], [65, 66, 67, 68, 69, 70, 71, 72, 73, 74, 75, 76], [49, 50, 51, 52, 53, 54, 55, 56, 57, 43, 45, 61], [109, 110, 111, 112, 113, 114, 115, 116, 117, 118, 119, 120]] : List Str) := by unfold LB; decide
    have hlen : ([[97, 98, 99, 100, 101, 102, 103, 104, 105, 106, 107, 108], [65, 66, 67, 68, 69, 70, 71, 72, 73, 74, 75, 76], [49, 50, 51, 52, 53, 54, 55, 56, 57, 43, 45, 61], [109, 110, 111, 112, 113, 114, 115, 116, 117, 118, 119, 120]] : List Str).length = 4 := rfl
    generalize ([[97, 98, 99, 100, 101, 102, 103, 104, 105, 106, 107, 108], [65, 66, 67, 68, 69, 70, 71, 72, 73, 74, 75, 76], [49, 50, 51, 52, 53, 54, 55, 56, 57, 43, 45, 61], [109, 110, 111, 112, 113, 114, 115, 116, 117, 118, 119, 120]] : List Str) = big at hbig hlen ⊢
    have fin2 : ∀ (a sd : Int) (l : List Str), 0 ≤ a → a ≤ hi + 180 → l.length ≤ 4 → LB 14 l → ∃ r, ((s_l00Src_one (L00Src.mk s.code a sd) 3).bind fun r59 => bif r59.1 then (app l ([[121, 122]] : List Str)).bind fun l63 => some (Layout.mk l63, L00Src.mk s.code r59.2.at_ r59.2.seed) else some (Layout.mk l, L00Src.mk s.code r59.2.at_ r59.2.seed)) = some r ∧ (SrcAt code (hi + 200) r.2 ∧ BL r.1) := fun a sd l w1 w2 w3 w4 => by
      refine bindE (oneA (code := code) (hi := hi + 180) (s := L00Src.mk s.code a sd) 3 ⟨hs, w1, w2⟩ (by omega)) fun v3 k3 => ?_
      refine condE (fun _ => ?_) fun _ => ?_
      · refine appE (by unfold LIM; simp; omega) ?_
        exact fin _ _ _ k3.2.1 (by have := k3.2.2; omega) (by simp; omega) (w4.snoc (by simp))
      · exact fin _ _ _ k3.2.1 (by have := k3.2.2; omega) (by omega) w4
    refine bindE (oneA (code := code) (hi := hi + 100 + 2) (s := L00Src.mk s.code v1.2.at_ v1.2.seed) 2 ⟨hs, k1.1.2⟩ (by omega)) fun v2 k2 => ?_
    refine condE (fun _ => ?_) fun _ => ?_
    · refine bindE (pickA (code := code) (hi := hi + 100 + 2 + 2) (s := L00Src.mk s.code v2.2.at_ v2.2.seed) 4 ⟨hs, k2.2⟩ (by omega)) fun v3 k3 => ?_
      have kc := k3.2.2 (by omega)
      have hix : idx big v3.1 = some (big[v3.1.toNat]'(by have := k3.2.1; omega)) := idx_int big _ k3.2.1 (by omega)
      have hml := hbig _ (List.getElem_mem (show v3.1.toNat < big.length by have := k3.2.1; omega))
      rw [hix, Option.bind_some, cat_some _ _ (by unfold LIM; simp only [List.length_singleton]; omega), Option.bind_some, Option.bind_some]
      refine fin2 _ _ _ k3.1.2.1 (by have := k3.1.2.2; omega) (by rw [List.length_set]; omega) fun w hw => ?_
      rcases List.mem_or_eq_of_mem_set hw with hw | rfl
      · have := hbig w hw; omega
      · rw [List.length_append, List.length_singleton]; omega
    · exact fin2 _ _ _ k2.2.1 (by have := k2.2.2; omega) (by omega) (fun w hw => by have := hbig w hw; omega)
  · exact fin _ _ _ k1.1.2.1 (by have := k1.1.2.2; omega) (by simp) (fun w hw => by cases hw)
  · exact fin _ _ _ k1.1.2.1 (by have := k1.1.2.2; omega) (by omega) hL14
theorem BL.b {v : Layout} (h : BL v) : v.rows.length ≤ 10 ∧ ∀ w ∈ v.rows, w.length ≤ 100 := ⟨by have := h.1; omega, fun w hw => by have := h.2 w hw; omega⟩
theorem join_le' (m : Nat) : ∀ (r : List Str) (sep : Str), (∀ w ∈ r, w.length ≤ m) → (Lib.joinTail sep r).length ≤ (m + sep.length) * r.length
  | [], _, _ => by simp [Lib.joinTail]
  | x :: r, sep, h => by
    have h1 := h x List.mem_cons_self
    have h2 := join_le' m r sep fun w hw => h w (List.mem_cons_of_mem _ hw)
    rw [joinTail_cons, List.length_append, List.length_append, List.length_cons, Nat.mul_add]
    omega
theorem BL.text {v : Layout} (h : BL v) : (Lib.join v.rows [47]).length ≤ 100 := by
  obtain ⟨h1, h2⟩ := h
  cases hr : v.rows with
  | nil => simp [Lib.join_nil]
  | cons w0 r =>
    rw [hr] at h1 h2
    have g1 := h2 w0 List.mem_cons_self
    have g2 := join_le' 14 r [47] fun w hw => h2 w (List.mem_cons_of_mem _ hw)
    rw [Lib.join_cons, List.length_append]
    simp only [List.length_cons, List.length_nil] at h1 g2
    omega
theorem spoil_ok {code : List UInt8} {hi : Int} {s : L00Src} (h : SrcAt code hi s) (hb : hi ≤ 10000) (t : Str) (ht : t.length ≤ 200) : ∃ v, s_l01Spoil s t = some v ∧ v.1.length ≤ 210 := by
  unfold s_l01Spoil
  simp only [withK_eq]
  have hs : s.code = code := h.1
  have hsub1 : ∀ p : Nat, p ≤ t.length → sub t 0 (p : Int) = some (t.take p) := fun p hp => by rw [sub_some t 0 p (by omega) (by omega) (by omega)]; simp
  have hsub2 : ∀ p : Nat, p ≤ t.length → sub t (p : Int) (t.length : Int) = some (t.drop p) := fun p hp => by
    rw [sub_some t _ _ (by omega) (by omega) (by omega), Int.toNat_natCast, Int.toNat_natCast, List.take_of_length_le (by rw [List.length_drop]; omega)]
  refine bindE (pickA (code := code) (hi := hi) (s := L00Src.mk s.code s.at_ s.seed) 5 ⟨hs, h.2⟩ (by omega)) fun v k => ?_
  refine condE (fun _ => ?_) fun _ => condE (fun _ => condE (fun hne => ?_) fun _ => ?_) fun _ => ?_
  · rw [w64_id (x := (t.length : Int) + 1) (by omega) (by omega)]
    refine bindE (pickA (code := code) (hi := hi + 2) (s := L00Src.mk s.code v.2.at_ v.2.seed) ((t.length : Int) + 1) ⟨hs, k.1.2⟩ (by omega)) fun v2 k2 => ?_
    have kc := k2.2.2 (by omega)
    obtain ⟨p, hp⟩ := Int.eq_ofNat_of_zero_le k2.2.1
    rw [hp] at kc ⊢
    rw [hsub1 p (by omega), Option.bind_some]
    refine bindE (textA (code := code) (hi := hi + 2 + 2) (s := L00Src.mk s.code v2.2.at_ v2.2.seed) _ (by decide) ⟨hs, k2.1.2⟩ (by omega)) fun v3 k3 => ?_
    have hv3 : v3.1.length ≤ 2 := by
      have : ∀ x ∈ ([[32], [48], [45], [120], [49], [57], [46]] : List Str), x.length ≤ 2 := by decide
      exact this _ k3.2
    have l1 : (t.take p).length ≤ t.length := by rw [List.length_take]; omega
    have l2 : (t.take p).length + (t.drop p).length = t.length := by rw [List.length_take, List.length_drop]; omega
    rw [cat_some _ _ (by unfold LIM; omega), Option.bind_some, hsub2 p (by omega), Option.bind_some, cat_some _ _ (by unfold LIM; rw [List.length_append]; omega), Option.bind_some]
    exact ⟨_, rfl, by show (t.take p ++ v3.1 ++ t.drop p).length ≤ 210; rw [List.length_append, List.length_append]; omega⟩
  · have hpos : 0 < t.length := by
      cases t with
      | nil => cases hne
      | cons => simp
    refine bindE (pickA (code := code) (hi := hi + 2) (s := L00Src.mk s.code v.2.at_ v.2.seed) (t.length : Int) ⟨hs, k.1.2⟩ (by omega)) fun v2 k2 => ?_
    have kc := k2.2.2 (by omega)
    obtain ⟨p, hp⟩ := Int.eq_ofNat_of_zero_le k2.2.1
    rw [hp] at kc ⊢
    have l2 : (t.take p).length + (t.drop (p + 1)).length ≤ t.length := by rw [List.length_take, List.length_drop]; omega
    rw [hsub1 p (by omega), Option.bind_some, w64_nat p (by omega), hsub2 (p + 1) (by omega), Option.bind_some, cat_some _ _ (by unfold LIM; omega), Option.bind_some]
    exact ⟨_, rfl, by show (t.take p ++ t.drop (p + 1)).length ≤ 210; rw [List.length_append]; omega⟩
  · exact ⟨_, rfl, by show t.length ≤ 210; omega⟩
  · exact ⟨_, rfl, by show t.length ≤ 210; omega⟩
theorem dfault (code : List UInt8) (N : Nat) (hN : 200 < N) : ∃ t, s_DrawLayoutFault N code = some t ∧ t.length ≤ 210 := by
  unfold s_DrawLayoutFault
  rw [fromA, Option.bind_some]
  refine bindE (bent_ok (code := code) (hi := 0) (s := L00Src.mk code 0 0) ⟨rfl, Int.le_refl _, Int.le_refl _⟩ (by omega) N (by omega)) fun v g => ?_
  have hB := g.2
  rw [show s_l06Text N (Layout.mk v.1.rows) = some (Lib.join v.1.rows [47]) from stext v.1.rows hB.b.1 hB.b.2 N (by omega), Option.bind_some]
  have hl := hB.text
  refine bindE (oneA (code := code) (hi := 0 + 200) (s := L00Src.mk code v.2.at_ v.2.seed) 3 ⟨rfl, g.1.2⟩ (by omega)) fun v2 k2 => ?_
  refine condE (fun _ => ?_) fun _ => ⟨_, rfl, by omega⟩
  obtain ⟨r, e, h⟩ := spoil_ok (code := code) (hi := 0 + 200 + 2) (s := L00Src.mk code v2.2.at_ v2.2.seed) ⟨rfl, k2.2⟩ (by omega) (Lib.join v.1.rows [47]) (by omega)
  rw [e, Option.bind_some]
  exact ⟨_, rfl, h⟩
theorem dexch (code : List UInt8) (N : Nat) (hN : 200 < N) : ∃ r, s_DrawExchangeLetters N code = some r ∧ BL r.1 := by
  unfold s_DrawExchangeLetters
  rw [fromA, Option.bind_some]
  refine bindE (bent_ok (code := code) (hi := 0) (s := L00Src.mk code 0 0) ⟨rfl, Int.le_refl _, Int.le_refl _⟩ (by omega) N (by omega)) fun v g => ?_
  refine bindE (oneA (code := code) (hi := 0 + 200) (s := L00Src.mk code v.2.at_ v.2.seed) 8 ⟨rfl, g.1.2⟩ (by omega)) fun v2 k2 => ?_
  refine condE (fun _ => ?_) fun _ => ?_
  · refine bindE (textA (code := code) (hi := 0 + 200 + 2) (s := L00Src.mk code v2.2.at_ v2.2.seed) _ (by decide) ⟨rfl, k2.2⟩ (by omega)) fun v3 k3 => ?_
    exact ⟨_, rfl, g.2⟩
  · refine bindE (textA (code := code) (hi := 0 + 200 + 2) (s := L00Src.mk code v2.2.at_ v2.2.seed) _ (by decide) ⟨rfl, k2.2⟩ (by omega)) fun v3 k3 => ?_
    refine bindE (textA (code := code) (hi := 0 + 200 + 2 + 2) (s := L00Src.mk code v3.2.at_ v3.2.seed) _ (by decide) ⟨rfl, k3.1.2⟩ (by omega)) fun v4 k4 => ?_
    exact ⟨_, rfl, g.2⟩
theorem dspot (code : List UInt8) (N : Nat) (hN : 200 < N) : ∃ r, s_DrawSpotOfLetter N code = some r ∧ BL r.1 := by
  unfold s_DrawSpotOfLetter
  rw [fromA, Option.bind_some]
  refine bindE (bent_ok (code := code) (hi := 0) (s := L00Src.mk code 0 0) ⟨rfl, Int.le_refl _, Int.le_refl _⟩ (by omega) N (by omega)) fun v g => ?_
  refine bindE (textA (code := code) (hi := 0 + 200) (s := L00Src.mk code v.2.at_ v.2.seed) _ (by decide) ⟨rfl, g.1.2⟩ (by omega)) fun v2 k2 => ?_
  exact ⟨_, rfl, g.2⟩
end Go.Proofs.Ytlmpbacboapkaaa
