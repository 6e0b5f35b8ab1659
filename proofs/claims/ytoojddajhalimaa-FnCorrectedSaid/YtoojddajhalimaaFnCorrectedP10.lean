/-
  Plain lemmas on these functions. No conditions but those that each states.
-/
import Derived.Test.YtoojddajhalimaaFnCorrectedP9
namespace Go.Proofs.Ytoojddajhalimaa
set_option linter.unusedVariables false
set_option linter.unusedSimpArgs false
theorem OApply_ok (code : List UInt8) (N : Nat) (hN : 6000 < N) : ∃ p : List Over × Str × Str × Str, s_DrawApplyPlan N code = some p ∧ p.1.length ≤ 21 ∧ p.2.1.length ≤ 1000 ∧ p.2.2.1.length ≤ 1000 ∧ p.2.2.2.length ≤ 1000 := by
  have hb : BIG = 1152921504606846976 := rfl
  obtain ⟨t, e1, d1, d2, d3⟩ := OTwo_ok code N (by omega)
  obtain ⟨r, g1, _, g3, _, _⟩ := Plan_eq N t.1 t.2.1 t.2.2 (by omega) (by omega) (by omega) (by omega)
  unfold s_DrawApplyPlan
  simp only [e1, s_l00From, Option.bind_some, g3]
  by_cases hr : r = 0
  · obtain ⟨_, _, _, hlen⟩ := g1 hr
    obtain ⟨l1, l2⟩ := plP_len t.1 t.2.1 t.2.2 hlen
    simp only [hr, if_true, bne_self_eq_false, cond_false, withK_eq]
    obtain ⟨v2, a2, s2, e2, b2, c2, _, _⟩ := pick_ok code 0 0 10 (by omega) (by omega)
    obtain ⟨o3, a3, s3, e3, _, _, c3⟩ := OPlan_ok code a2 s2 N (by omega) (by omega) (by omega)
    obtain ⟨o4, a4, s4, e4, _, _, c4⟩ := ONear_ok code a2 s2 (plT t.1 t.2.1 t.2.2) N (by omega) (by omega) (by omega) (by omega)
    have ca : cat (plP t.1 t.2.1 t.2.2) [46] = some (plP t.1 t.2.1 t.2.2 ++ [46]) := cat_some _ _ (by simp; unfold LIM; omega)
    simp only [e2, Option.bind_some, e3, e4, ca]
    cases (v2 == 0)
    · cases (v2 == 1)
      · cases (v2 == 2)
        · exact ⟨_, rfl, d1, by show t.2.1.length ≤ 1000; omega, by show (plP _ _ _).length ≤ 1000; omega, by show (plT _ _ _).length ≤ 1000; omega⟩
        · exact ⟨_, rfl, d1, by show t.2.1.length ≤ 1000; omega, by show (plP _ _ _).length ≤ 1000; omega, by show o4.length ≤ 1000; omega⟩
      · exact ⟨_, rfl, d1, by show t.2.1.length ≤ 1000; omega, by show o3.length ≤ 1000; omega, by show (plT _ _ _).length ≤ 1000; omega⟩
    · exact ⟨_, rfl, d1, by show t.2.1.length ≤ 1000; omega, by simp; omega, by show (plT _ _ _).length ≤ 1000; omega⟩
  · have hne : (r != 0) = true := by simpa using hr
    obtain ⟨o3, a3, s3, e3, _, _, c3⟩ := OPlan_ok code 0 0 N (by omega) (by omega) (by omega)
    simp only [hr, if_false, hne, cond_true, e3, Option.bind_some]
    exact ⟨_, rfl, d1, by show t.2.1.length ≤ 1000; omega, by show o3.length ≤ 1000; omega, by show t.2.2.length ≤ 1000; omega⟩
theorem Co_l2 (K : Option Bool) (r : List Over × Str × Str) (hr : Ru r.1) (i : Nat) (h1 : i < r.2.1.length) (h2 : i < r.2.2.length) (hl : r.2.1.length ≤ 1000) (hl2 : r.2.2.length ≤ 1000) (hno : ∀ x ∈ r.1, ¬ (hd x.under = r.2.1[i] ∧ hd x.seen = r.2.2[i])) :
    ∀ (n j N : Nat), j + n = r.1.length → n < N → w_FnCorrected_l2 K r (i : Int) N (j : Int) = K := by
  have hlen := hr.len
  have s1 : sub r.2.1 (i : Int) ((i + 1 : Nat) : Int) = some [r.2.1[i]] := by
    rw [sub_some _ _ _ (by omega) (by omega) (by omega)]
    simp only [Int.toNat_natCast]
    rw [drop_cons r.2.1 i h1, show i + 1 - i = 1 by omega]; rfl
  have s2 : sub r.2.2 (i : Int) ((i + 1 : Nat) : Int) = some [r.2.2[i]] := by
    rw [sub_some _ _ _ (by omega) (by omega) (by omega)]
    simp only [Int.toNat_natCast]
    rw [drop_cons r.2.2 i h2, show i + 1 - i = 1 by omega]; rfl
  intro n
  induction n with
  | zero =>
    intro j N g1 g3
    obtain ⟨N, rfl⟩ := pos_fuel g3
    have hi : ¬ ((j : Int) < (r.1.length : Int)) := by omega
    simp only [w_FnCorrected_l2, hi, decide_false, cond_false]
  | succ n ih =>
    intro j N g1 g3
    obtain ⟨N, rfl⟩ := pos_fuel g3
    have hi : (j : Int) < (r.1.length : Int) := by omega
    have hj : j < r.1.length := by omega
    have hx := List.getElem_mem hj
    have c : (r.1[j].under == [r.2.1[i]] && r.1[j].seen == [r.2.2[i]]) = false := by
      rw [← Bool.not_eq_true, Bool.and_eq_true, beq_iff_eq, beq_iff_eq]
      rintro ⟨f1, f2⟩
      exact hno _ hx ⟨by rw [f1]; rfl, by rw [f2]; rfl⟩
    simp only [w_FnCorrected_l2, hi, decide_true, cond_true, idx_lt r.1 j hj, Option.bind_some, w64_nat i (by omega), s1, s2, andO_some, c, cond_false, w64_nat j (by omega)]
    exact ih (j + 1) N (by omega) (by omega)
theorem Co_l1 (r : List Over × Str × Str) (q : Str × Str × Int) (hr : Ru r.1) (hlen : r.2.1.length = r.2.2.length) (ha : r.2.1.length ≤ 1000) (h1 : ∀ c ∈ r.2.1, pr c = true) (h2 : ∀ c ∈ r.2.2, pr c = true) (hq : q.1 = plP r.1 r.2.1 r.2.2) :
    ∀ (n i N : Nat), i + n = q.1.length → n + 100 < N → w_FnCorrected_l1 (some true) r q N (i : Int) = some true := by
  have hr20 := hr.len
  have hql : q.1.length = r.2.1.length := by rw [hq]; exact (plP_len _ _ _ hlen).1
  intro n
  induction n with
  | zero =>
    intro i N g1 g3
    obtain ⟨N, rfl⟩ := pos_fuel (by omega : 0 < N)
    have hi : ¬ ((i : Int) < (q.1.length : Int)) := by omega
    simp only [w_FnCorrected_l1, hi, decide_false, cond_false]
  | succ n ih =>
    intro i N g1 g3
    obtain ⟨N, rfl⟩ := pos_fuel (by omega : 0 < N)
    have hi : (i : Int) < (q.1.length : Int) := by omega
    have hn : i < q.1.length := by omega
    have hx : i < r.2.1.length := by omega
    have hy : i < r.2.2.length := by omega
    have hget : q.1[i] = (pl r.1 r.2.1[i] r.2.2[i]).1 := by
      have := plP_get r.1 r.2.1 r.2.2 i hx hy (by rw [← hq]; exact hn)
      rw [← this]; congr 1
    obtain ⟨_, _, _, hp⟩ := pl_ok hr r.2.1[i] r.2.2[i] (h1 _ (List.getElem_mem hx)) (h2 _ (List.getElem_mem hy))
    have hih := ih (i + 1) N (by omega) (by omega)
    simp only [w_FnCorrected_l1, hi, decide_true, cond_true, withK_eq, idx_lt q.1 i hn, idx_lt r.2.1 i hx, idx_lt r.2.2 i hy, Option.bind_some, orO_some, w64_nat i (by omega), hih]
    by_cases e : q.1[i] = 35
    · obtain ⟨n1, n2, n3⟩ := hp (by rw [← hget]; exact e)
      have e0 : (q.1[i] != 35) = false := by simp [e]
      have c : (r.2.1[i] == 32 || r.2.1[i] == r.2.2[i]) = false := by
        rw [← Bool.not_eq_true, Bool.or_eq_true, beq_iff_eq, beq_iff_eq]
        rintro (f | f)
        · exact n1 f
        · exact n2 f
      simp only [e0, cond_false, c]
      exact Co_l2 (some true) r hr i hx hy ha (by omega) n3 r.1.length 0 N (by omega) (by omega)
    · have e0 : (q.1[i] != 35) = true := by simpa using e
      simp only [e0, cond_true]
theorem law_FnCorrected (code : List UInt8) (_ : wfL wfByte code) : ∃ N, w_FnCorrected N code = some true := by
  obtain ⟨N, hN⟩ : ∃ N, N = 30000 := ⟨_, rfl⟩
  refine ⟨N, ?_⟩
  unfold w_FnCorrected
  have hb : BIG = 1152921504606846976 := rfl
  by_cases hbig : (code.length : Int) > 4096
  · simp [w_f6big, hbig]
  obtain ⟨d, e1, d1, d2, d3⟩ := OTwo_ok code N (by omega)
  have x1 : s_DrawCorrectionPlan N code = some d := by simp only [s_DrawCorrectionPlan, e1, Option.bind_some]
  obtain ⟨y, x2, y1, y2, y3, y4⟩ := OApply_ok code N (by omega)
  obtain ⟨o, a3, s3, e3, _, _, c3⟩ := OPlan_ok code 0 0 N (by omega) (by omega) (by omega)
  have x3 : s_DrawErasedIn N code = some o := by simp only [s_DrawErasedIn, s_l00From, e3, Option.bind_some]
  obtain ⟨r, g1, g2, g3, g4, g5⟩ := Plan_eq N d.1 d.2.1 d.2.2 (by omega) (by omega) (by omega) (by omega)
  obtain ⟨q, q1, q2, _⟩ := Apply_eq N y.1 y.2.1 y.2.2.1 y.2.2.2 (by omega) y2 y3 y4 (by omega)
  obtain ⟨z, z1, z2, _⟩ := Erased_eq N o (by omega) (by omega)
  obtain ⟨b, _, b2⟩ := Ok_eq d.1 (by omega)
  obtain ⟨b3, b4⟩ := b2 N (by omega)
  have b5 : s_ValidOvers N d.1 = some b := by simp only [s_ValidOvers, b3, Option.bind_some]
  simp only [w_f6big, hbig, decide_false, Option.bind_some, cond_false, x1, x2, x3, g2, g3, g4, g5, q1, q2, z1, z2, b4, b5, bne_self_eq_false, orO_some, orO_false, Bool.or_false, withK_eq]
  by_cases hr : r = 0
  · obtain ⟨f1, f2, f3, f4⟩ := g1 hr
    have hR := Ru.of f1
    have ha := (okT_iff.1 f2).2
    have hw := (okT_iff.1 f3).2
    have hl1 := (okT_iff.1 f2).1
    obtain ⟨l1, l2⟩ := plP_len d.1 d.2.1 d.2.2 f4
    obtain ⟨m1, m2, m3⟩ := plan_makes hR d.2.1 d.2.2 f4 ha hw
    have hP : isP (plP d.1 d.2.1 d.2.2) = true := by
      unfold isP; rw [m2, l1]; simp; omega
    have hT : okT 60 (plT d.1 d.2.1 d.2.2) = true := by
      unfold okT; rw [m3, l2]; simp; omega
    obtain ⟨p, p1, _, p3⟩ := Apply_eq N d.1 d.2.1 (plP d.1 d.2.1 d.2.2) (plT d.1 d.2.1 d.2.2) (by omega) (by omega) (by omega) (by omega) (by omega)
    have hp := p3 f1 f2 hT l2.symm hP l1 (by
      rw [m1, List.all_eq_true]; intro c hc
      have := pr_nz (hw c hc); simpa using this)
    rw [m1] at hp
    obtain ⟨v, v1, _, v3⟩ := Erased_eq N (plP d.1 d.2.1 d.2.2) (by omega) (by omega)
    have hv := v3 hP
    simp only [hr, if_true, bne_self_eq_false, cond_false, p1, v1, hp, hv, Option.bind_some, orO_some, Bool.or_self]
    exact Co_l1 d (plP d.1 d.2.1 d.2.2, plT d.1 d.2.1 d.2.2, 0) hR f4 (by omega) ha hw rfl (plP d.1 d.2.1 d.2.2).length 0 N (by simp) (by omega)
  · have hne : (r != 0) = true := by simpa using hr
    simp only [hr, if_false, hne, cond_true]
end Go.Proofs.Ytoojddajhalimaa
