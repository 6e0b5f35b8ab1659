/-
  Plain lemmas on these functions. No conditions but those that each states.
-/
import Derived.Test.YtkjccgkpieakpaaFnCentredP6
namespace Go.Proofs.Ytkjccgkpieakpaa
set_option linter.unusedVariables false
set_option linter.unusedSimpArgs false
theorem LDraw_ok (code : List UInt8) (at_ seed : Int) (N : Nat) (hN : 200 < N) (h0 : 0 ≤ at_) (h1 : at_ + 300 < BIG) : ∃ v a sd, s_l10Draw N ⟨code, at_, seed⟩ = some (v, ⟨code, a, sd⟩) ∧ 0 ≤ a ∧ a ≤ at_ + 10 ∧ v.length ≤ 120 := by
  obtain ⟨t1, a1, s1, e1, b1, c1, d1⟩ := text_mem code at_ seed [[], [97], [80, 114, 105, 99, 101, 32, 108, 105, 115, 116], [111, 102, 32, 116, 121, 112, 101, 119, 114, 105, 116, 101, 114, 115], [78, 111, 46, 32, 53], [84, 104, 101, 32, 83, 116, 97, 110, 100, 97, 114, 100, 32, 87, 114, 105, 116, 101, 114], [120, 32, 121]] (by simp) h0 (by omega)
  have l1 : t1.length ≤ 30 := by
    simp only [List.mem_cons, List.not_mem_nil, or_false] at d1
    rcases d1 with rfl | rfl | rfl | rfl | rfl | rfl | rfl <;> decide
  obtain ⟨v2, a2, s2, e2, b2, c2, _, _⟩ := pick_ok code a1 s1 20 (by omega) (by omega)
  obtain ⟨t3, a3, s3, e3, b3, c3, d3⟩ := text_mem code a2 s2 [[32], [127]] (by simp) (by omega) (by omega)
  have l3 : t3.length ≤ 30 := by
    simp only [List.mem_cons, List.not_mem_nil, or_false] at d3
    rcases d3 with rfl | rfl <;> decide
  obtain ⟨v4, a4, s4, e4, b4, c4, d4, f4⟩ := pick_ok code a2 s2 2 (by omega) (by omega)
  have f4 := f4 (by omega)
  have ew : w64 (100 + v4) = 100 + v4 := w64_id (by omega) (by omega)
  have er := rule_eq N 119 (100 + v4) (by omega) (by omega) (by omega)
  have ca : cat t1 t3 = some (t1 ++ t3) := cat_some _ _ (by unfold LIM; omega)
  have cb : cat [32] t1 = some ([32] ++ t1) := cat_some _ _ (by simp; unfold LIM; omega)
  simp only [s_l10Draw, e1, Option.bind_some, withK_eq, e2, e3, e4, ew, er, ca, cb]
  cases (v2 == 0)
  · cases (v2 == 1)
    · cases (v2 == 2)
      · exact ⟨_, _, _, rfl, by omega, by omega, by omega⟩
      · exact ⟨_, _, _, rfl, by omega, by omega, by simp; omega⟩
    · exact ⟨_, _, _, rfl, by omega, by omega, by simp; omega⟩
  · exact ⟨_, _, _, rfl, by omega, by omega, by simp; omega⟩
theorem LWidth_ok (code : List UInt8) (at_ seed : Int) (h0 : 0 ≤ at_) (h1 : at_ + 300 < BIG) : ∃ v a sd, s_l10Width ⟨code, at_, seed⟩ = some (v, ⟨code, a, sd⟩) ∧ 0 ≤ a ∧ a ≤ at_ + 10 := by
  obtain ⟨v1, a1, s1, e1, b1, c1⟩ := one_ok code at_ seed 10 h0 (by omega)
  obtain ⟨v2, a2, s2, e2, b2, c2⟩ := among_ok code a1 s1 [(-1), 0, 1, 100, 101, (-9223372036854775808)] (by simp) (by omega) (by omega)
  obtain ⟨v3, a3, s3, e3, b3, c3, _, _⟩ := pick_ok code a1 s1 50 (by omega) (by omega)
  simp only [s_l10Width, e1, Option.bind_some, e2, e3]
  cases v1
  · exact ⟨_, _, _, rfl, by omega, by omega⟩
  · exact ⟨_, _, _, rfl, by omega, by omega⟩
theorem LBoth_ok (code : List UInt8) (N : Nat) (hN : 200 < N) : ∃ p : Str × Int, s_DrawCentreText N code = some p ∧ p.1.length ≤ 120 := by
  have hb : BIG = 1152921504606846976 := rfl
  obtain ⟨v1, a1, s1, e1, b1, c1, d1⟩ := LDraw_ok code 0 0 N hN (by omega) (by omega)
  obtain ⟨v2, a2, s2, e2, b2, c2⟩ := LWidth_ok code a1 s1 b1 (by omega)
  exact ⟨(v1, v2), by simp only [s_DrawCentreText, s_l10Both, s_l00From, Option.bind_some, e1, e2], d1⟩
theorem LSpread_ok (code : List UInt8) (N : Nat) (hN : 200 < N) : ∃ p : Str, s_DrawSpreadText N code = some p ∧ p.length ≤ 120 := by
  have hb : BIG = 1152921504606846976 := rfl
  obtain ⟨v1, a1, s1, e1, b1, c1⟩ := one_ok code 0 0 10 (by omega) (by omega)
  obtain ⟨v2, a2, s2, e2, b2, c2, d2, f2⟩ := pick_ok code a1 s1 2 (by omega) (by omega)
  have f2 := f2 (by omega)
  obtain ⟨v3, a3, s3, e3, b3, c3, d3⟩ := LDraw_ok code a1 s1 N hN (by omega) (by omega)
  have ew : w64 (50 + v2) = 50 + v2 := w64_id (by omega) (by omega)
  have er := rule_eq N 119 (50 + v2) (by omega) (by omega) (by omega)
  simp only [s_DrawSpreadText, s_l00From, Option.bind_some, e1, e2, e3, ew, er]
  cases v1
  · exact ⟨_, rfl, d3⟩
  · exact ⟨_, rfl, by simp; omega⟩
theorem spr_len (s : Str) : (spr s).length ≤ 2 * s.length := by
  cases s with
  | nil => simp [spr]
  | cons x t => simp only [spr, List.length_cons, sprT_len]; omega
theorem LJoin_ok (code : List UInt8) (N : Nat) (hN : 200 < N) : ∃ p : Str, s_DrawJoinSpread N code = some p ∧ p.length ≤ 240 := by
  have hb : BIG = 1152921504606846976 := rfl
  obtain ⟨v1, a1, s1, e1, b1, c1, d1⟩ := LDraw_ok code 0 0 N hN (by omega) (by omega)
  obtain ⟨v2, a2, s2, e2, b2, c2⟩ := one_ok code a1 s1 4 b1 (by omega)
  obtain ⟨e3, _⟩ := spr_eq N v1 (by omega) (by omega)
  have := spr_len v1
  simp only [s_DrawJoinSpread, s_l00From, Option.bind_some, e1, e2, e3, orO_some]
  cases (v2 || decide ((v1.length : Int) > 40))
  · exact ⟨_, rfl, by omega⟩
  · exact ⟨_, rfl, by omega⟩
theorem LLeader_ok (code : List UInt8) (N : Nat) (hN : 200 < N) : ∃ p : Str × Str × Int, s_DrawLeaderLine N code = some p ∧ p.1.length ≤ 120 ∧ p.2.1.length ≤ 120 := by
  have hb : BIG = 1152921504606846976 := rfl
  obtain ⟨v1, a1, s1, e1, b1, c1, d1⟩ := LDraw_ok code 0 0 N hN (by omega) (by omega)
  obtain ⟨v2, a2, s2, e2, b2, c2, d2⟩ := LDraw_ok code a1 s1 N hN b1 (by omega)
  obtain ⟨v3, a3, s3, e3, b3, c3⟩ := LWidth_ok code a2 s2 b2 (by omega)
  exact ⟨(v1, v2, v3), by simp only [s_DrawLeaderLine, s_l00From, Option.bind_some, e1, e2, e3], d1, d2⟩
theorem LUnder_ok (code : List UInt8) (N : Nat) (hN : 200 < N) : ∃ p : Str, s_DrawUnderlineText N code = some p ∧ p.length ≤ 120 := by
  have hb : BIG = 1152921504606846976 := rfl
  obtain ⟨v1, a1, s1, e1, b1, c1, d1⟩ := LDraw_ok code 0 0 N hN (by omega) (by omega)
  exact ⟨v1, by simp only [s_DrawUnderlineText, s_l00From, Option.bind_some, e1], d1⟩
theorem law_FnCentred (code : List UInt8) (_ : wfL wfByte code) : ∃ N, w_FnCentred N code = some true := by
  obtain ⟨N, hN⟩ : ∃ N, N = 3000 := ⟨_, rfl⟩
  refine ⟨N, ?_⟩
  unfold w_FnCentred
  by_cases hb : (code.length : Int) > 4096
  · simp [w_f6big, hb]
  obtain ⟨d, x1, d1⟩ := LBoth_ok code N (by omega)
  obtain ⟨c, x2, d2⟩ := LSpread_ok code N (by omega)
  obtain ⟨j, x3, d3⟩ := LJoin_ok code N (by omega)
  obtain ⟨e, x4, d4, d5⟩ := LLeader_ok code N (by omega)
  obtain ⟨g, x5, d6⟩ := LUnder_ok code N (by omega)
  obtain ⟨p, p1, p2, p3, p4⟩ := Centre_eq N d.1 d.2 (by omega) (by omega)
  obtain ⟨q, q1, q2, q3, q4⟩ := Right_eq N d.1 d.2 (by omega) (by omega)
  obtain ⟨r, r1, r2, r3⟩ := Spread_eq N c (by omega) (by omega)
  obtain ⟨t, t1, t2, t3⟩ := Join_eq N j (by omega) (by omega)
  obtain ⟨u, u1, u2, u3⟩ := Leader_eq N e.1 e.2.1 e.2.2 (by omega) (by omega) (by omega)
  obtain ⟨v, v1, v2, v3⟩ := Under_eq N g (by omega) (by omega)
  obtain ⟨w, w1, w2, w3⟩ := Back_eq N g (by omega) (by omega)
  simp only [w_f6big, hb, decide_false, Option.bind_some, cond_false, x1, x2, x3, x4, x5, p1, p2, q1, q2, r1, r2, t1, t2, u1, u2, v1, v2, w1, w2, bne_self_eq_false, orO_some, andO_some, Bool.or_false, withK_eq]
  -- what is spread is joined again
  have hj : r.2 = 0 → i_JoinSpread N r.1 = some (c, 0) := by
    intro h
    obtain ⟨g1, g2, g3⟩ := r3 h
    rw [g2]
    obtain ⟨y, y1, _, y3⟩ := Join_eq N (spr c) (by omega) (by omega)
    rw [y1, y3 (spr_ok c g1 g3), jo_spr]
  have h1 : (u.2 == 0 && (u.1.length : Int) != e.2.2) = false := by
    by_cases h : u.2 = 0
    · have := u3 h; simp [this]
    · have : (u.2 == 0) = false := by simpa using h
      rw [this]; rfl
  have h2 : (v.2 == 0 && ((v.1.length : Int) != (g.length : Int) || w64 (2 * w.1) != w64 ((g.length : Int) + Int.tmod (g.length : Int) 2))) = false := by
    by_cases h : v.2 = 0
    · obtain ⟨g1, g2⟩ := v3 h
      have g3 := w3 g1
      have e3 : Int.tmod (g.length : Int) 2 = (g.length : Int) % 2 := Int.tmod_eq_emod_of_nonneg (by omega)
      have e4 : w64 (2 * w.1) = w64 ((g.length : Int) + Int.tmod (g.length : Int) 2) := by
        rw [e3, g3, w64_id (by omega) (by omega), w64_id (by omega) (by omega)]; omega
      rw [e4, g2]; simp
    · have : (v.2 == 0) = false := by simpa using h
      rw [this]; rfl
  simp only [h1, h2, Bool.or_false, cond_false]
  have hr : ∀ B : Option Bool, B = some true → (bif r.2 == 0 then (i_JoinSpread N r.1).bind fun r88 => bif r88.2 != 0 || r88.1 != c then some false else B else B) = some true := by
    intro B hB
    by_cases h : r.2 = 0
    · simp [h, hj h, hB]
    · have e0 : (r.2 == 0) = false := by simpa using h
      rw [e0]; exact hB
  by_cases hp : p.2 = 0
  · have hz : cdW d.1 d.2 = 0 := p3 ▸ hp
    obtain ⟨g1, g2, g3, g4⟩ := cdW_zero hz
    have ep := p4 hz
    have eq := q4 hz
    have lp : (p.1.length : Int) = (d.2 - d.1.length) / 2 + d.1.length := by rw [ep]; unfold cen; simp; omega
    have lq : (q.1.length : Int) = d.2 := by rw [eq]; unfold rig; simp; omega
    have e1 : w64 ((p.1.length : Int) - d.1.length) = (d.2 - d.1.length) / 2 := by rw [lp, w64_id (by omega) (by omega)]; omega
    have e2 : w64 (d.2 - (p.1.length : Int)) = d.2 - d.1.length - (d.2 - d.1.length) / 2 := by rw [lp, w64_id (by omega) (by omega)]; omega
    have e3 : w64 ((d.2 - (d.1.length : Int)) / 2 + 1) = (d.2 - d.1.length) / 2 + 1 := w64_id (by omega) (by omega)
    have e4 : w64 (d.2 - (d.1.length : Int)) = d.2 - d.1.length := w64_id (by omega) (by omega)
    have A : (decide ((d.2 - (d.1.length : Int)) / 2 ≥ 0) && (d.2 - (d.1.length : Int) - (d.2 - (d.1.length : Int)) / 2 == (d.2 - (d.1.length : Int)) / 2 || d.2 - (d.1.length : Int) - (d.2 - (d.1.length : Int)) / 2 == (d.2 - (d.1.length : Int)) / 2 + 1)) = true := by
      simp only [Bool.and_eq_true, Bool.or_eq_true, decide_eq_true_eq, beq_iff_eq]; omega
    have S1 : sub p.1 ((d.2 - (d.1.length : Int)) / 2) (p.1.length : Int) = some d.1 := by
      have hd : p.1.drop ((d.2 - (d.1.length : Int)) / 2).toNat = d.1 := by
        rw [ep]; unfold cen
        rw [List.drop_append_of_le_length (by simp), List.drop_of_length_le (by simp), List.nil_append]
      rw [sub_some _ _ _ (by omega) (by omega) (by omega), hd, List.take_of_length_le (by omega)]
    have S2 : sub q.1 (d.2 - (d.1.length : Int)) d.2 = some d.1 := by
      have hd : q.1.drop (d.2 - (d.1.length : Int)).toNat = d.1 := by
        rw [eq]; unfold rig
        rw [List.drop_append_of_le_length (by simp), List.drop_of_length_le (by simp), List.nil_append]
      rw [sub_some _ _ _ (by omega) (by omega) (by omega), hd, List.take_of_length_le (by omega)]
    simp only [e1, e2, e3, e4, A, S1, S2, lq, hp, bne_self_eq_false, cond_false, Option.bind_some, andO_some, beq_self_eq_true, Bool.and_self]
    exact hr _ rfl
  · have : (p.2 != 0) = true := by simpa using hp
    simp only [this, cond_true]
    exact hr _ rfl
end Go.Proofs.Ytkjccgkpieakpaa
