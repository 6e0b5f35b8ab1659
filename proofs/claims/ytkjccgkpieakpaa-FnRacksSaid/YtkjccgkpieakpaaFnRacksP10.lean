/-
  Plain lemmas on these functions. No conditions but those that each states.
-/
import Derived.Test.YtkjccgkpieakpaaFnRacksP9
namespace Go.Proofs.Ytkjccgkpieakpaa
set_option linter.unusedVariables false
set_option linter.unusedSimpArgs false
theorem f6ints_l1_eq (a : List Int) (ha : a.length ≤ LIM) : ∀ (n i N : Nat), i + n = a.length → n < N → w_f6ints_l1 (some true) a a N (i : Int) = some true := by
  intro n
  induction n with
  | zero =>
    intro i N h1 h3
    obtain ⟨N, rfl⟩ := pos_fuel h3
    have hi : ¬ ((i : Int) < (a.length : Int)) := by omega
    simp only [w_f6ints_l1, hi, decide_false, cond_false]
  | succ n ih =>
    intro i N h1 h3
    obtain ⟨N, rfl⟩ := pos_fuel h3
    have hi : (i : Int) < (a.length : Int) := by omega
    have hn : i < a.length := by omega
    unfold LIM at ha
    simp only [w_f6ints_l1, hi, decide_true, cond_true, idx_lt a i hn, Option.bind_some, bne_self_eq_false, cond_false, w64_nat i (by omega)]
    exact ih (i + 1) N (by omega) (by omega)
theorem f6ints_eq {N : Nat} (a : List Int) (ha : a.length ≤ LIM) (hN : a.length < N) : w_f6ints N a a = some true := by
  unfold w_f6ints
  simp only [bne_self_eq_false, cond_false, withK_eq]
  exact f6ints_l1_eq a ha a.length 0 N (by omega) hN
theorem RDraw_l1_ok (code : List UInt8) : ∀ (k N : Nat) (s1 : L00Src) (at_ seed B x : Int) (l : List Int), s1.code = code → 0 ≤ at_ → at_ + 2 * k ≤ B → B < BIG → l.length + k ≤ 13 → k < N →
    ∃ a sd l', a ≤ B ∧ 0 ≤ a ∧ l'.length ≤ 13 ∧ ∀ K, s_l08Draw_l1 K s1 N at_ seed l x (k : Int) = K a sd l' := by
  intro k
  induction k with
  | zero =>
    intro N s1 at_ seed B x l hs h0 h1 h2 h3 h4
    obtain ⟨N, rfl⟩ := pos_fuel h4
    exact ⟨at_, seed, l, by omega, h0, by omega, fun K => by simp [s_l08Draw_l1]⟩
  | succ k ih =>
    intro N s1 at_ seed B x l hs h0 h1 h2 h3 h4
    obtain ⟨N, rfl⟩ := pos_fuel h4
    subst hs
    have hk : (((k + 1 : Nat) : Int) > 0) := by omega
    have hkk : w64 (((k + 1 : Nat) : Int) - 1) = (k : Int) := by rw [w64_id (by omega) (by omega)]; omega
    have ea : app l [x] = some (l ++ [x]) := app_some _ _ (by simp; unfold LIM; omega)
    obtain ⟨v1, a1, s1', e1, b1, c1, _, _⟩ := pick_ok s1.code at_ seed 9 h0 (by omega)
    obtain ⟨a'', sd'', l', i1, i2, i3, i4⟩ := ih N s1 a1 s1' B (w64 (x + (w64 (1 + v1)))) (l ++ [x]) rfl (by omega) (by omega) h2 (by simp; omega) (by omega)
    refine ⟨a'', sd'', l', i1, i2, i3, fun K => ?_⟩
    simp only [s_l08Draw_l1, hk, decide_true, cond_true, ea, Option.bind_some, e1, hkk]
    exact i4 K
theorem RDraw_ok (code : List UInt8) (at_ seed : Int) (N : Nat) (hN : 20 < N) (h0 : 0 ≤ at_) (h1 : at_ + 300 < BIG) : ∃ a sd l, s_l08Draw N ⟨code, at_, seed⟩ = some (l, ⟨code, a, sd⟩) ∧ 0 ≤ a ∧ a ≤ at_ + 200 ∧ l.length ≤ 14 := by
  obtain ⟨v, a1, s1, e1, b1, c1, d1, f1⟩ := pick_ok code at_ seed 9 h0 (by omega)
  obtain ⟨v2, a2, s2, e2, b2, c2, d2, f2⟩ := pick_ok code a1 s1 6 (by omega) (by omega)
  have f2 := f2 (by omega)
  obtain ⟨v3, a3, s3, e3, b3, c3⟩ := one_ok code a2 s2 16 (by omega) (by omega)
  have fin : ∀ (a sd n : Int), 0 ≤ a → a ≤ at_ + 100 → 0 ≤ n → n ≤ 13 → ∃ a' sd' l', (withK (fun (x20 : Int) (x21 : Int) (l22 : List Int) =>
      withK (fun (x39 : Int) (x40 : Int) (l41 : List Int) =>
      some (l41, (L00Src.mk code x39 x40))) fun (k43 : Int → Int → (List Int) → Option ((List Int) × L00Src)) =>
      (s_l00Src_one (L00Src.mk code x20 x21) 16).bind fun r45 =>
      bif r45.1 then
      (s_l00Src_among (L00Src.mk code r45.2.at_ r45.2.seed) [(-1), 0, 119, 120]).bind fun r49 =>
      (app l22 [r49.1]).bind fun l52 =>
      k43 r49.2.at_ r49.2.seed l52
      else
      k43 r45.2.at_ r45.2.seed l22) fun (k24 : Int → Int → (List Int) → Option ((List Int) × L00Src)) =>
      s_l08Draw_l1 k24 ⟨code, at_, seed⟩ N a sd [] v n) = some (l', ⟨code, a', sd'⟩) ∧ 0 ≤ a' ∧ a' ≤ at_ + 200 ∧ l'.length ≤ 14 := by
    intro a sd n ha hb hn hn2
    obtain ⟨k, rfl⟩ := Int.eq_ofNat_of_zero_le hn
    obtain ⟨a4, s4, l4, i1, i2, i3, i4⟩ := RDraw_l1_ok code k N ⟨code, at_, seed⟩ a sd (at_ + 150) v [] rfl ha (by omega) (by omega) (by simp; omega) (by omega)
    obtain ⟨v5, a5, s5, e5, b5, c5⟩ := one_ok code a4 s4 16 (by omega) (by omega)
    obtain ⟨v6, a6, s6, e6, b6, c6⟩ := among_ok code a5 s5 [(-1), 0, 119, 120] (by simp) (by omega) (by omega)
    have ea : app l4 [v6] = some (l4 ++ [v6]) := app_some _ _ (by simp; unfold LIM; omega)
    simp only [withK_eq]
    rw [i4]
    simp only [e5, Option.bind_some, e6, ea]
    cases v5
    · exact ⟨_, _, _, rfl, by omega, by omega, by omega⟩
    · exact ⟨_, _, _, rfl, by omega, by omega, by simp; omega⟩
  unfold s_l08Draw
  simp only [e1, e2, Option.bind_some, e3]
  cases v3
  · obtain ⟨a', sd', l', g1, g2, g3, g4⟩ := fin a3 s3 v2 (by omega) (by omega) d2 (by omega)
    exact ⟨a', sd', l', by simpa only [withK_eq, cond_false] using g1, g2, g3, g4⟩
  · obtain ⟨v7, a7, s7, e7, b7, c7, d7, f7⟩ := pick_ok code a3 s3 2 (by omega) (by omega)
    have f7 := f7 (by omega)
    obtain ⟨a', sd', l', g1, g2, g3, g4⟩ := fin a7 s7 (12 + v7) (by omega) (by omega) (by omega) (by omega)
    have ew : w64 (12 + v7) = 12 + v7 := w64_id (by omega) (by omega)
    exact ⟨a', sd', l', by simpa only [withK_eq, cond_true, e7, Option.bind_some, ew] using g1, g2, g3, g4⟩
theorem RAsk_ok (code : List UInt8) (N : Nat) (hN : 20 < N) : ∃ p : List Int × Int, s_l08Ask N code = some p ∧ p.1.length ≤ 14 := by
  have hb : BIG = 1152921504606846976 := rfl
  obtain ⟨a1, s1, l1, e1, b1, c1, d1⟩ := RDraw_ok code 0 0 N hN (by omega) (by omega)
  obtain ⟨v2, a2, s2, e2, b2, c2⟩ := one_ok code a1 s1 10 b1 (by omega)
  unfold s_l08Ask
  simp only [s_l00From, Option.bind_some, e1, e2]
  cases v2
  · simp only [cond_false]
    have fin : ∀ (b : Bool) (a sd : Int), (b = true → 0 < l1.length) → 0 ≤ a → a < BIG → ∃ p : List Int × Int, (bif b then (s_l00Src_among ⟨code, a, sd⟩ l1).bind fun r23 => some (l1, r23.1) else (s_l00Src_pick ⟨code, a, sd⟩ 50).bind fun r25 => some (l1, r25.1)) = some p ∧ p.1.length ≤ 14 := by
      intro b a sd hl h0 h1
      cases b
      · obtain ⟨v, a', sd', e, _⟩ := pick_ok code a sd 50 h0 h1
        exact ⟨(l1, v), by simp [e], d1⟩
      · obtain ⟨v, a', sd', e, _⟩ := among_ok code a sd l1 (hl rfl) h0 h1
        exact ⟨(l1, v), by simp [e], d1⟩
    by_cases hl : (l1.length : Int) > 0
    · obtain ⟨v3, a3, s3, e3, b3, c3⟩ := one_ok code a2 s2 3 (by omega) (by omega)
      simp only [hl, decide_true, cond_true, e3, Option.bind_some]
      exact fin v3 a3 s3 (fun _ => by omega) (by omega) (by omega)
    · simp only [hl, decide_false, cond_false, Option.bind_some]
      exact fin false a2 s2 (fun h => by cases h) (by omega) (by omega)
  · obtain ⟨v3, a3, s3, e3, b3, c3⟩ := among_ok code a2 s2 [(-1), 0, 119, 120] (by simp) (by omega) (by omega)
    exact ⟨(l1, v3), by simp [e3], d1⟩
theorem Rk_l1 (K : Option Bool) (r25 : (List Int) × Int) (r28 : Int × Int) (hl : r25.1.length ≤ 1000) (h : ∀ j, ∀ h : j < r25.1.length, ¬ (r25.1[j] > r25.2 ∧ r25.1[j] < r28.1)) : ∀ (n i N : Nat), i + n = r25.1.length → n < N → w_FnRacks_l1 K r25 r28 N (i : Int) = K := by
  intro n
  induction n with
  | zero =>
    intro i N h1 h3
    obtain ⟨N, rfl⟩ := pos_fuel h3
    have hi : ¬ ((i : Int) < (r25.1.length : Int)) := by omega
    simp only [w_FnRacks_l1, hi, decide_false, cond_false]
  | succ n ih =>
    intro i N h1 h3
    obtain ⟨N, rfl⟩ := pos_fuel h3
    have hi : (i : Int) < (r25.1.length : Int) := by omega
    have hn : i < r25.1.length := by omega
    have hh := h i hn
    have c : (decide (r25.1[i] > r25.2) && decide (r25.1[i] < r28.1)) = false := by
      rw [← Bool.not_eq_true, Bool.and_eq_true, decide_eq_true_eq, decide_eq_true_eq]; exact hh
    simp only [w_FnRacks_l1, hi, decide_true, cond_true, idx_lt r25.1 i hn, Option.bind_some, andO_some, c, cond_false, w64_nat i (by omega)]
    exact ih (i + 1) N (by omega) (by omega)
theorem law_FnRacks (code : List UInt8) (_ : wfL wfByte code) : ∃ N, w_FnRacks N code = some true := by
  obtain ⟨N, hN⟩ : ∃ N, N = 3000 := ⟨_, rfl⟩
  refine ⟨N, ?_⟩
  unfold w_FnRacks
  by_cases hb : (code.length : Int) > 4096
  · simp [w_f6big, hb]
  obtain ⟨d, e1, d1⟩ := RAsk_ok code N (by omega)
  have e2 : s_DrawSetStop N code = some d := by simp [s_DrawSetStop, e1]
  have e3 : s_DrawClearStop N code = some d := by simp [s_DrawClearStop, e1]
  have e4 : s_DrawNextStop N code = some d := by simp [s_DrawNextStop, e1]
  have ld : d.1.length ≤ LIM := by unfold LIM; omega
  obtain ⟨p, p1, p2, p3, p4, p5⟩ := SetStop_eq N d.1 d.2 (by omega) (by omega)
  obtain ⟨q, q1, q2, q3, q4, q5⟩ := ClearStop_eq N d.1 d.2 (by omega) (by omega)
  obtain ⟨u, u1, u2, u3⟩ := Next_eq N d.1 d.2 ld (by omega)
  obtain ⟨t, t1, t2⟩ := RackText_eq N d.1 (by omega) (by omega)
  obtain ⟨b, b1, b2⟩ := Rack_eq d.1 ld
  obtain ⟨b3, b4⟩ := b2 N (by omega)
  have b5 : s_ValidRack N d.1 = some b := by simp [s_ValidRack, b3]
  have fp := f6ints_eq (N := N) p.1 (by unfold LIM; omega) (by omega)
  have fq := f6ints_eq (N := N) q.1 (by unfold LIM; omega) (by omega)
  have fd := f6ints_eq (N := N) d.1 (by unfold LIM; omega) (by omega)
  simp only [w_f6big, hb, decide_false, Option.bind_some, cond_false, e2, e3, e4, p1, p2, q1, q2, u1, u2, t1, t2, b4, b5, bne_self_eq_false, orO_some, orO_false, fp, fq, Bool.not_true, Bool.or_false, withK_eq]
  -- the way back
  have hset : (bif (p.2 != 0) then some true else (i_ClearStop N p.1 d.2).bind fun r98 => (andO (r98.2 == 0) ((w_f6ints N r98.1 d.1).bind fun r104 => some r104)).bind fun t101 => some t101) = some true := by
    rcases p4 with ⟨g1, g2, g3, g4, g5, g6, g7⟩ | g
    · obtain ⟨hl, hel, hp⟩ := (VR_iff d.1).1 g3
      have hil := ins_len hp g7
      obtain ⟨c, c1, c2, c3, c4, c5⟩ := ClearStop_eq N p.1 d.2 p3 (by omega)
      have hv : VR p.1 := by
        rw [VR_iff, g2]
        refine ⟨by omega, fun x hx => ?_, ins_pairwise hp⟩
        rcases mem_ins hx with rfl | hx
        · exact ⟨g4, g5⟩
        · exact hel x hx
      have c0 := c5 hv g4 g5 (by rw [g2]; unfold ins; simp)
      rcases c4 with ⟨_, c6, _⟩ | c6
      · rw [g2, ins_filter hp g7] at c6
        have : (p.2 != 0) = false := by simpa using g1
        simp only [this, cond_false, c2, Option.bind_some, c0, c6, fd, beq_self_eq_true, andO_true]
      · exact absurd c0 c6
    · have : (p.2 != 0) = true := by simpa using g
      simp only [this, cond_true]
  rw [hset]
  have hclear : (bif (q.2 == 0) then (i_SetStop N q.1 d.2).bind fun r88 => (orO (r88.2 != 0) ((w_f6ints N r88.1 d.1).bind fun r94 => some (!r94))).bind fun t91 => bif t91 then some false else some true else some true) = some true := by
    rcases q4 with ⟨g1, g2, g3, g4, g5, g6⟩ | g
    · obtain ⟨hl, hel, hp⟩ := (VR_iff d.1).1 g3
      have hfl : (d.1.filter (· != d.2)).length < d.1.length := by
        have h1 := List.length_filter_le (· != d.2) d.1
        have h2 : (d.1.filter (· != d.2)).length ≠ d.1.length := fun e => by
          have := (List.length_filter_eq_length_iff.1 e) d.2 g6
          simp at this
        omega
      obtain ⟨c, c1, c2, c3, c4, c5⟩ := SetStop_eq N q.1 d.2 (by rw [g2]; omega) (by omega)
      have hv : VR q.1 := by
        rw [VR_iff, g2]
        exact ⟨by omega, fun x hx => hel x (List.mem_filter.1 hx).1, hp.filter _⟩
      have c0 := c5 hv g4 g5 (by rw [g2]; omega) (by rw [g2]; intro h; have := (List.mem_filter.1 h).2; simp at this)
      rcases c4 with ⟨_, c6, _⟩ | c6
      · rw [g2, filter_ins, sorted_ins hp g6] at c6
        simp only [g1, beq_self_eq_true, cond_true, c2, Option.bind_some, c0, bne_self_eq_false, orO_false, c6, fd, Bool.not_true, cond_false]
      · exact absurd c0 c6
    · have : (q.2 == 0) = false := by simpa using g
      simp only [this, cond_false]
  rw [hclear]
  by_cases hu : u.2 = 0
  · obtain ⟨k, k1, k2, k3, k4, k5⟩ := u3 hu
    obtain ⟨hl, hel, hp⟩ := (VR_iff d.1).1 k4
    have hp' := List.pairwise_iff_getElem.1 hp
    obtain ⟨_, hh⟩ := Has_eq N d.1 u.1 ld (by omega)
    have hm : d.1.any (· == u.1) = true := (any_mem _ _).2 (by rw [k2]; exact List.getElem_mem k1)
    rw [hm] at hh
    have n1 : ¬ u.1 ≤ d.2 := by rw [k2]; omega
    simp only [hu, beq_self_eq_true, cond_true, n1, decide_false, orO_false, hh, Option.bind_some, Bool.not_true, cond_false]
    exact Rk_l1 (some true) d u (by omega) (fun j hj hx => by
      by_cases e : j < k
      · have := k5 j e hj; omega
      · have : d.1[k] ≤ d.1[j] := by
          by_cases e2 : j = k
          · subst e2; exact Int.le_refl _
          · have := hp' k j k1 hj (by omega); omega
        rw [k2] at hx; omega) d.1.length 0 N (by omega) (by omega)
  · have : (u.2 == 0) = false := by simpa using hu
    simp only [this, cond_false]
end Go.Proofs.Ytkjccgkpieakpaa
