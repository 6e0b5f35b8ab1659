/-
  Plain lemmas on these functions. No conditions but those that each states.
-/
import Derived.Test.YthmocnbnlpdggaaFnSeenLettersP10
namespace Go.Proofs.Ythmocnbnlpdggaa
set_option linter.unusedVariables false
set_option linter.unusedSimpArgs false
theorem f6ints_l1_eq (a : List Int) (ha : a.length ≤ LIM) : ∀ (n i N : Nat), i + n = a.length → n < N → w_f6ints_l1 (some true) a a N (i : Int) = some true := by
  intro n
  induction n with
  | zero =>
    intro i N h1 h3
    obtain ⟨N, rfl⟩ := pos_fuel h3
    have hi : ¬ ((i : Int) < (a.length : Int)) := by omega
    simp only [w_f6ints_l1, hi, decide_false, cond_false]
  | succ n ih =>
    intro i N h1 h3
    obtain ⟨N, rfl⟩ := pos_fuel h3
    have hi : (i : Int) < (a.length : Int) := by omega
    have hn : i < a.length := by omega
    unfold LIM at ha
    simp only [w_f6ints_l1, hi, decide_true, cond_true, idx_lt a i hn, Option.bind_some, bne_self_eq_false, cond_false, w64_nat i (by omega)]
    exact ih (i + 1) N (by omega) (by omega)
theorem f6ints_eq {N : Nat} (a : List Int) (ha : a.length ≤ LIM) (hN : a.length < N) : w_f6ints N a a = some true := by
  unfold w_f6ints
  simp only [bne_self_eq_false, cond_false, withK_eq]
  exact f6ints_l1_eq a ha a.length 0 N (by omega) hN
theorem Cat4 (N : Nat) (x : Over) (hx : x.under.length ≤ 100) (hy : x.top.length ≤ 100) (hz : x.seen.length ≤ 100) (hN : 300 < N) :
    i_OverText N x = some (bif one x then x.under ++ [60] ++ x.top ++ [61] ++ x.seen else []) ∧ s_OverText x = some (bif one x then x.under ++ [60] ++ x.top ++ [61] ++ x.seen else []) := by
  obtain ⟨o1, o2⟩ := One_eq N x (by omega)
  have hxe : Over.mk x.under x.top x.seen = x := rfl
  have c1 : cat x.under [60] = some (x.under ++ [60]) := cat_some _ _ (by simp; unfold LIM; omega)
  have c2 : cat (x.under ++ [60]) x.top = some (x.under ++ [60] ++ x.top) := cat_some _ _ (by simp; unfold LIM; omega)
  have c3 : cat (x.under ++ [60] ++ x.top) [61] = some (x.under ++ [60] ++ x.top ++ [61]) := cat_some _ _ (by simp; unfold LIM; omega)
  have c4 : cat (x.under ++ [60] ++ x.top ++ [61]) x.seen = some (x.under ++ [60] ++ x.top ++ [61] ++ x.seen) := cat_some _ _ (by simp; unfold LIM; omega)
  unfold i_OverText s_OverText
  simp only [o1, hxe, o2, Option.bind_some, c1, c2, c3, c4]
  cases one x <;> exact ⟨rfl, rfl⟩
theorem Read_eq (N : Nat) (s : Str) (hs : s.length ≤ 1000) (hN : 300 < N) : ∃ p : Over × Bool, i_ReadOver N s = some p ∧ s_ReadOver s = some p := by
  by_cases h : s.length = 5
  · match s, h with
    | [a, b, c, d, e], _ =>
      have i1 : idx [a, b, c, d, e] 1 = some b := rfl
      have i3 : idx [a, b, c, d, e] 3 = some d := rfl
      have s1 : sub [a, b, c, d, e] 0 1 = some [a] := rfl
      have s2 : sub [a, b, c, d, e] 2 3 = some [c] := rfl
      have s3 : sub [a, b, c, d, e] 4 (([a, b, c, d, e] : Str).length : Int) = some [e] := rfl
      obtain ⟨o1, o2⟩ := One_eq N ⟨[a], [c], [e]⟩ (by omega)
      have hn : ((([a, b, c, d, e] : Str).length : Int) != 5) = false := rfl
      simp only [i_ReadOver, s_ReadOver, hn, orO_some, i1, i3, Option.bind_some, s1, s2, s3, o1, o2, Bool.false_or]
      cases (b != 60 || d != 61)
      · cases one ⟨[a], [c], [e]⟩
        · exact ⟨_, rfl, rfl⟩
        · exact ⟨_, rfl, rfl⟩
      · exact ⟨_, rfl, rfl⟩
  · have h' : ((s.length : Int) != 5) = true := by simp; omega
    exact ⟨(⟨[], [], []⟩, false), by simp [i_ReadOver, h'], by simp [s_ReadOver, h']⟩
theorem beq_self' (x : Over) : Over.beq x x = true := by simp [Over.beq]
theorem Back_ok (N : Nat) (x : Over) (h : one x = true) (hN : 300 < N) : i_ReadOver N (x.under ++ [60] ++ x.top ++ [61] ++ x.seen) = some (x, true) := by
  have h0 := h
  simp only [one, Bool.and_eq_true] at h
  obtain ⟨a, b, c, _⟩ := h
  obtain ⟨u, u1, _⟩ := isL_iff a
  obtain ⟨t, t1, _⟩ := isL_iff b
  obtain ⟨s, s1, _⟩ := isL_iff c
  have hx : x = ⟨[u], [t], [s]⟩ := by cases x; simp only at u1 t1 s1; subst u1 t1 s1; rfl
  subst hx
  obtain ⟨o1, _⟩ := One_eq N ⟨[u], [t], [s]⟩ (by omega)
  have i1 : idx [u, 60, t, 61, s] 1 = some 60 := rfl
  have i3 : idx [u, 60, t, 61, s] 3 = some 61 := rfl
  have e1 : sub [u, 60, t, 61, s] 0 1 = some [u] := rfl
  have e2 : sub [u, 60, t, 61, s] 2 3 = some [t] := rfl
  have e3 : sub [u, 60, t, 61, s] 4 (([u, 60, t, 61, s] : Str).length : Int) = some [s] := rfl
  have hn : ((([u, 60, t, 61, s] : Str).length : Int) != 5) = false := rfl
  show i_ReadOver N [u, 60, t, 61, s] = _
  simp only [i_ReadOver, hn, orO_false, i1, i3, Option.bind_some, bne_self_eq_false, cond_false, e1, e2, e3, o1, h0, Bool.not_true]
theorem Nil_no (N : Nat) : i_ReadOver N [] = some (⟨[], [], []⟩, false) := by simp [i_ReadOver]
theorem Spoil_ok (code : List UInt8) (at_ seed : Int) (t : Str) (h0 : 0 ≤ at_) (h1 : at_ + 100 < BIG) (ht : t.length ≤ 100) : ∃ p : Str × L00Src, s_l01Spoil ⟨code, at_, seed⟩ t = some p ∧ p.1.length ≤ 200 := by
  obtain ⟨v1, a1, s1, e1, b1, c1, _, _⟩ := pick_ok code at_ seed 5 h0 (by omega)
  have ew : w64 ((t.length : Int) + 1) = (t.length : Int) + 1 := w64_id (by omega) (by omega)
  obtain ⟨v2, a2, s2, e2, b2, c2, d2, f2⟩ := pick_ok code a1 s1 ((t.length : Int) + 1) (by omega) (by omega)
  have f2 := f2 (by omega)
  obtain ⟨x, a3, s3, e3, b3, c3, d3⟩ := text_mem code a2 s2 [[32], [48], [45], [120], [49], [57], [46]] (by simp) (by omega) (by omega)
  have hx : x.length ≤ 1 := by
    simp only [List.mem_cons, List.not_mem_nil, or_false] at d3
    rcases d3 with rfl | rfl | rfl | rfl | rfl | rfl | rfl <;> decide
  have q1 : sub t 0 v2 = some (t.take v2.toNat) := by rw [sub_some _ _ _ (by omega) (by omega) (by omega)]; simp
  have q2 : sub t v2 (t.length : Int) = some (t.drop v2.toNat) := by
    rw [sub_some _ _ _ (by omega) (by omega) (by omega), List.take_of_length_le (by simp)]
  have k1 : cat (t.take v2.toNat) x = some (t.take v2.toNat ++ x) := cat_some _ _ (by simp; unfold LIM; omega)
  have k2 : cat (t.take v2.toNat ++ x) (t.drop v2.toNat) = some (t.take v2.toNat ++ x ++ t.drop v2.toNat) := cat_some _ _ (by simp; unfold LIM; omega)
  simp only [s_l01Spoil, withK_eq, e1, Option.bind_some, ew, e2, q1, e3, k1, q2, k2]
  cases (v1 == 0)
  · cases (v1 == 1)
    · exact ⟨_, rfl, by show t.length ≤ 200; omega⟩
    · by_cases hn : t = []
      · subst hn
        exact ⟨_, rfl, by show ([] : Str).length ≤ 200; simp⟩
      · have hne : (t != []) = true := by simpa using hn
        have hl : 0 < t.length := List.length_pos_iff.2 hn
        obtain ⟨v4, a4, s4, e4, b4, c4, d4, f4⟩ := pick_ok code a1 s1 (t.length : Int) (by omega) (by omega)
        have f4 := f4 (by omega)
        have ew4 : w64 (v4 + 1) = v4 + 1 := w64_id (by omega) (by omega)
        have q3 : sub t 0 v4 = some (t.take v4.toNat) := by rw [sub_some _ _ _ (by omega) (by omega) (by omega)]; simp
        have q4 : sub t (v4 + 1) (t.length : Int) = some (t.drop (v4 + 1).toNat) := by
          rw [sub_some _ _ _ (by omega) (by omega) (by omega), List.take_of_length_le (by simp)]
        have k3 : cat (t.take v4.toNat) (t.drop (v4 + 1).toNat) = some (t.take v4.toNat ++ t.drop (v4 + 1).toNat) := cat_some _ _ (by simp; unfold LIM; omega)
        simp only [cond_false, cond_true, hne, e4, Option.bind_some, q3, ew4, q4, k3]
        exact ⟨_, rfl, by simp; omega⟩
  · exact ⟨_, rfl, by simp; omega⟩
theorem RDraw_ok (code : List UInt8) : ∃ s, s_DrawReadOver code = some s ∧ s.length ≤ 200 := by
  have hb : BIG = 1152921504606846976 := rfl
  obtain ⟨t, a1, s1, e1, b1, c1, d1⟩ := text_mem code 0 0 [[99, 60, 47, 61, 48], [111, 60, 45, 61, 116], [97, 60, 98, 61, 97], [60, 60, 61, 61, 61]] (by simp) (by omega) (by omega)
  have ht : t.length ≤ 100 := by
    simp only [List.mem_cons, List.not_mem_nil, or_false] at d1
    rcases d1 with rfl | rfl | rfl | rfl <;> decide
  obtain ⟨v2, a2, s2, e2, b2, c2⟩ := one_ok code a1 s1 3 (by omega) (by omega)
  obtain ⟨p, p1, p2⟩ := Spoil_ok code a2 s2 t (by omega) (by omega) ht
  simp only [s_DrawReadOver, s_l00From, Option.bind_some, e1, e2, p1]
  cases v2
  · exact ⟨t, rfl, by omega⟩
  · exact ⟨p.1, rfl, p2⟩
theorem WDraw_l1 (code : List UInt8) : ∀ (k N : Nat) (at_ seed B : Int) (l : List Str), 0 ≤ at_ → at_ + 300 * k ≤ B → B + 1000 < BIG → l.length + k ≤ 21 → (∀ e ∈ l, e.length ≤ 61) → k + 400 < N →
    ∃ l', l'.length ≤ 21 ∧ (∀ e ∈ l', e.length ≤ 61) ∧ ∀ K, s_DrawWornPlaces_l1 K code N at_ seed l (k : Int) = K l' := by
  intro k
  induction k with
  | zero =>
    intro N at_ seed B l h0 h1 h2 h3 hl h4
    obtain ⟨N, rfl⟩ := pos_fuel (by omega : 0 < N)
    exact ⟨l, by omega, hl, fun K => by simp [s_DrawWornPlaces_l1]⟩
  | succ k ih =>
    intro N at_ seed B l h0 h1 h2 h3 hl h4
    obtain ⟨N, rfl⟩ := pos_fuel (by omega : 0 < N)
    have hk : (((k + 1 : Nat) : Int) > 0) := by omega
    have hkk : w64 (((k + 1 : Nat) : Int) - 1) = (k : Int) := by rw [w64_id (by omega) (by omega)]; omega
    obtain ⟨o, a1, s1, e1, b1, c1, d1⟩ := OPlan_ok code at_ seed N (by omega) h0 (by omega)
    have ea : app l [o] = some (l ++ [o]) := app_some _ _ (by simp; unfold LIM; omega)
    obtain ⟨l', i1, i2, i3⟩ := ih N a1 s1 B (l ++ [o]) b1 (by omega) h2 (by simp; omega) (fun x hx => by
      rcases List.mem_append.1 hx with hx | hx
      · exact hl x hx
      · simp at hx; subst hx; exact d1) (by omega)
    refine ⟨l', i1, i2, fun K => ?_⟩
    simp only [s_DrawWornPlaces_l1, hk, decide_true, cond_true, e1, Option.bind_some, ea, hkk]
    exact i3 K
theorem WDraw_ok (code : List UInt8) (N : Nat) (hN : 1000 < N) : ∃ l, s_DrawWornPlaces N code = some l ∧ l.length ≤ 21 ∧ ∀ e ∈ l, e.length ≤ 61 := by
  have hb : BIG = 1152921504606846976 := rfl
  obtain ⟨v, a1, s1, e1, b1, c1, d1, f1⟩ := pick_ok code 0 0 9 (by omega) (by omega)
  have f1 := f1 (by omega)
  obtain ⟨v2, a2, s2, e2, b2, c2⟩ := one_ok code a1 s1 20 (by omega) (by omega)
  have fin : ∀ (a sd n : Int), 0 ≤ a → a ≤ 100 → 0 ≤ n → n ≤ 21 → ∃ l', s_DrawWornPlaces_l1 (fun x => some x) code N a sd [] n = some l' ∧ l'.length ≤ 21 ∧ ∀ e ∈ l', e.length ≤ 61 := by
    intro a sd n h0 h1 h2 h3
    obtain ⟨k, rfl⟩ := Int.eq_ofNat_of_zero_le h2
    obtain ⟨l', i1, i2, i3⟩ := WDraw_l1 code k N a sd 100000 [] h0 (by omega) (by omega) (by simp; omega) (by simp) (by omega)
    exact ⟨l', i3 _, i1, i2⟩
  unfold s_DrawWornPlaces
  simp only [s_l00From, Option.bind_some, e1, e2]
  cases v2
  · obtain ⟨l', g1, g2⟩ := fin a2 s2 v (by omega) (by omega) d1 (by omega)
    exact ⟨l', by simpa only [withK_eq, cond_false] using g1, g2⟩
  · obtain ⟨v7, a7, s7, e7, b7, c7, d7, f7⟩ := pick_ok code a2 s2 2 (by omega) (by omega)
    have f7 := f7 (by omega)
    obtain ⟨l', g1, g2⟩ := fin a7 s7 (20 + v7) (by omega) (by omega) (by omega) (by omega)
    have ew : w64 (20 + v7) = 20 + v7 := w64_id (by omega) (by omega)
    exact ⟨l', by simpa only [withK_eq, cond_true, e7, Option.bind_some, ew] using g1, g2⟩
theorem SDraw_ok (code : List UInt8) (N : Nat) (hN : 1000 < N) : ∃ p : Str × Str × Int, s_DrawShiftedMatch N code = some p ∧ p.1.length ≤ 100 ∧ p.2.1.length ≤ 100 := by
  have hb : BIG = 1152921504606846976 := rfl
  obtain ⟨t, e1, d1, d2, d3⟩ := OTwo_ok code N (by omega)
  obtain ⟨v2, a2, s2, e2, b2, c2⟩ := one_ok code 0 0 2 (by omega) (by omega)
  have fin : ∀ (a sd : Int) (w : Str), 0 ≤ a → a ≤ 100 → w.length ≤ 100 → ∃ p : Str × Str × Int, ((s_l00Src_one (L00Src.mk code a sd) 10).bind fun r25 =>
      bif r25.1 then
      (s_l00Src_among (L00Src.mk code r25.2.at_ r25.2.seed) [(-1), 0, 60, 61]).bind fun r29 =>
      some (t.2.1, w, r29.1)
      else
      (s_l00Src_pick (L00Src.mk code r25.2.at_ r25.2.seed) 5).bind fun r31 =>
      some (t.2.1, w, r31.1)) = some p ∧ p.1.length ≤ 100 ∧ p.2.1.length ≤ 100 := by
    intro a sd w h0 h1 h2
    obtain ⟨v3, a3, s3, e3, b3, c3⟩ := one_ok code a sd 10 h0 (by omega)
    obtain ⟨v4, a4, s4, e4, b4, c4⟩ := among_ok code a3 s3 [(-1), 0, 60, 61] (by simp) (by omega) (by omega)
    obtain ⟨v5, a5, s5, e5, b5, c5, _, _⟩ := pick_ok code a3 s3 5 (by omega) (by omega)
    simp only [e3, Option.bind_some, e4, e5]
    cases v3
    · exact ⟨_, rfl, by show t.2.1.length ≤ 100; omega, h2⟩
    · exact ⟨_, rfl, by show t.2.1.length ≤ 100; omega, h2⟩
  unfold s_DrawShiftedMatch
  simp only [e1, s_l00From, Option.bind_some, withK_eq, e2, andO_some]
  cases hc : (v2 && decide ((t.2.2.length : Int) > 3))
  · obtain ⟨p, g1, g2⟩ := fin a2 s2 t.2.2 (by omega) (by omega) (by omega)
    exact ⟨p, by simpa only [cond_false] using g1, g2⟩
  · obtain ⟨v7, a7, s7, e7, b7, c7, d7, f7⟩ := pick_ok code a2 s2 3 (by omega) (by omega)
    have f7 := f7 (by omega)
    have hgt : (t.2.2.length : Int) > 3 := by
      rw [Bool.and_eq_true, decide_eq_true_eq] at hc; exact hc.2
    have q2 : sub t.2.2 v7 (t.2.2.length : Int) = some (t.2.2.drop v7.toNat) := by
      rw [sub_some _ _ _ (by omega) (by omega) (by omega), List.take_of_length_le (by simp)]
    obtain ⟨p, g1, g2⟩ := fin a7 s7 (t.2.2.drop v7.toNat) (by omega) (by omega) (by simp; omega)
    exact ⟨p, by simpa only [cond_true, e7, Option.bind_some, q2] using g1, g2⟩
end Go.Proofs.Ythmocnbnlpdggaa
