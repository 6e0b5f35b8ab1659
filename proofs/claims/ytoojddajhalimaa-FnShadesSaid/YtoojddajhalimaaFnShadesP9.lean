/-
  Plain lemmas on these functions. No conditions but those that each states.
-/
import Derived.Test.YtoojddajhalimaaFnShadesP8
namespace Go.Proofs.Ytoojddajhalimaa
set_option linter.unusedVariables false
set_option linter.unusedSimpArgs false
theorem sh_l1 (t : Str) (sh : List Int) (d l : Int) (p : Int × Int) (r : Ribbon) (q : List Int × Int) (hq : q.1 = sh) (hl : sh.length = t.length) (ht : t.length ≤ 1000) (p0 : 0 ≤ p.1) (p1 : p.1 < t.length) (hb : bad t sh l p.1) (hn : ∀ q : Int, 0 ≤ q → q < p.1 → ¬ bad t sh l q) (K : Option Bool) :
    ∀ (n i N : Nat), (i : Int) + n = p.1 + 1 → n < N → w_FnShades_l1 K (r, d, t, l) p q N (i : Int) = K := by
  intro n
  induction n with
  | zero =>
    intro i N h1 h2
    obtain ⟨N, rfl⟩ := pos_fuel h2
    have hi : ¬ ((i : Int) ≤ p.1) := by omega
    simp only [w_FnShades_l1, hi, decide_false, cond_false]
  | succ n ih =>
    intro i N h1 h2
    obtain ⟨N, rfl⟩ := pos_fuel h2
    have hi : (i : Int) ≤ p.1 := by omega
    have hn1 : i < t.length := by omega
    have hn2 : i < sh.length := by omega
    simp only [w_FnShades_l1, hi, decide_true, cond_true, idx_lt t i hn1, hq, idx_lt sh i hn2, Option.bind_some, andO_some, w64_nat i (by omega)]
    have key : (t[i] != 32 && decide (sh[i] < l) != ((i : Int) == p.1)) = false := by
      by_cases c : (t[i] != 32) = true
      · rw [c, Bool.true_and]
        by_cases e : (i : Int) = p.1
        · obtain ⟨a, b, ha, hb2, _, hlt⟩ := hb
          rw [← e, idx_lt sh i hn2] at hb2
          have := Option.some.inj hb2
          have e2 : ((i : Int) == p.1) = true := by simpa using e
          rw [e2, this]
          simp [hlt]
        · have e2 : ((i : Int) == p.1) = false := by simpa using e
          rw [e2]
          have : ¬ sh[i] < l := fun h => hn i (by omega) (by omega) ⟨_, _, idx_lt t i hn1, idx_lt sh i hn2, c, h⟩
          simp [this]
      · have c' : (t[i] != 32) = false := by simpa using c
        rw [c', Bool.false_and]
    rw [key, cond_false]
    exact ih (i + 1) N (by omega) (by omega)
theorem sh_l2 (l : List Ribbon) (pr : List Int) (st least : Int) (p : Int × Int × Int) (hl : l.length ≤ 1000) (hp : pr.length = l.length) (hv : ∀ r ∈ l, okR r) (h0 : 0 ≤ st) (h1' : st ≤ 100000) (hle : 1 ≤ least) (hm : ∀ j x, pc l pr st least j x → p.2.1 ≤ x) (K : Option Bool) :
    ∀ (n i N : Nat), i + n = l.length → n + 100010 < N → w_FnShades_l2 K (l, pr, st, least) p N (i : Int) = K := by
  intro n
  induction n with
  | zero =>
    intro i N h1 h2
    obtain ⟨N, rfl⟩ := pos_fuel (show 0 < N by omega)
    have hi : ¬ ((i : Int) < (l.length : Int)) := by omega
    simp only [w_FnShades_l2, hi, decide_false, cond_false]
  | succ n ih =>
    intro i N h1 h2
    obtain ⟨N, rfl⟩ := pos_fuel (show 0 < N by omega)
    have hi : (i : Int) < (l.length : Int) := by omega
    have hn : i < l.length := by omega
    have hn2 : i < pr.length := by omega
    have hr : okR l[i] := hv _ (List.getElem_mem hn)
    have := ih (i + 1) N (by omega) (by omega)
    simp only [w_FnShades_l2, hi, decide_true, cond_true, withK_eq, idx_lt l i hn, Option.bind_some, w64_nat i (by omega), this]
    by_cases g : least > l[i].ink
    · simp only [g, decide_true, cond_true]
    · have hx0 : pc l pr st least i (w64 (pr[i] * ndI l[i] st least)) := ⟨_, _, List.getElem?_eq_getElem hn, List.getElem?_eq_getElem hn2, by omega, rfl⟩
      have hx := hm i _ hx0
      have hx' : ¬ w64 (pr[i] * ndI l[i] st least) < p.2.1 := by omega
      simp only [g, decide_false, cond_false, RF_val N l[i] st least (by omega) hr hle (by omega) h0 h1', Option.bind_some, idx_lt pr i hn2, hx', orO_some, bne_self_eq_false, Bool.or_self]
theorem law_FnShades (code : List UInt8) (_ : wfL wfByte code) : ∃ N, w_FnShades N code = some true := by
  have hb : BIG = 1152921504606846976 := rfl
  refine ⟨200000, ?_⟩
  obtain ⟨N, hN⟩ : ∃ N, N = 200000 := ⟨_, rfl⟩
  rw [← hN]
  unfold w_FnShades w_f6big
  simp only [Option.bind_some]
  cases decide ((code.length : Int) > 4096)
  case true => rfl
  rw [cond_false]
  have e0 : s_l00From code = some ⟨code, 0, 0⟩ := rfl
  -- the draws
  obtain ⟨a1, x1⟩ : ∃ p, s_DrawStrokesUntil code = some p := by
    obtain ⟨r1, q1, sd1, d1, d2, d3⟩ := Bent_ok code 0 0 (by omega) (by omega)
    obtain ⟨v2, q2, sd2, e2, b2, c2⟩ := one_ok code q1 sd1 30 (by omega) (by omega)
    obtain ⟨v3, q3, sd3, e3, b3, c3⟩ := DLeast_ok code q2 sd2 r1 (by omega) (by omega)
    simp only [s_DrawStrokesUntil, e0, d1, e2, e3, Option.bind_some]
    cases v2 <;> exact ⟨_, rfl⟩
  obtain ⟨r2, d2, t2, l2, x2, ht2⟩ : ∃ (r : Ribbon) (d : Int) (t : Str) (l : Int), s_DrawPalestLetter N code = some (r, d, t, l) ∧ t.length ≤ 1000 := by
    obtain ⟨r1, q1, sd1, d1, d2, d3⟩ := Bent_ok code 0 0 (by omega) (by omega)
    obtain ⟨v2, q2, sd2, e2, b2, c2⟩ := Strokes_ok code q1 sd1 (by omega) (by omega)
    obtain ⟨v3, q3, sd3, e3, f3, b3, c3⟩ := DText_ok N code q2 sd2 (by omega) (by omega) (by omega)
    obtain ⟨v4, q4, sd4, e4, b4, c4⟩ := DLeast_ok code q3 sd3 r1 (by omega) (by omega)
    simp only [s_DrawPalestLetter, e0, d1, e2, e3, e4, Option.bind_some]
    exact ⟨_, _, _, _, rfl, f3⟩
  obtain ⟨⟨L, PR, ST, LE⟩, x3, hL, hPR⟩ := DBest_ok N code (by omega)
  obtain ⟨a4, x4⟩ : ∃ p, s_DrawRibbonsFor code = some p := by
    obtain ⟨r1, q1, sd1, d1, d2, d3⟩ := Bent_ok code 0 0 (by omega) (by omega)
    obtain ⟨v2, q2, sd2, e2, b2, c2⟩ := Strokes_ok code q1 sd1 (by omega) (by omega)
    obtain ⟨v3, q3, sd3, e3, b3, c3⟩ := DLeast_ok code q2 sd2 r1 (by omega) (by omega)
    simp only [s_DrawRibbonsFor, e0, d1, e2, e3, Option.bind_some]
    exact ⟨_, rfl⟩
  obtain ⟨s5, x5, hs5⟩ := DCol_ok N code (by omega)
  -- what is asked
  obtain ⟨p1, y1, y1', f1⟩ := SU_eq N a1.1 a1.2 (by omega)
  obtain ⟨p2, y2, y2', f2⟩ := Palest_eq N r2 d2 t2 l2 ht2 (by omega)
  obtain ⟨p3, y3, y3', f3, f3'⟩ := ShadesOf_eq N r2 d2 t2 ht2 (by omega)
  obtain ⟨p4, y4, y4', f4⟩ := Best_eq N L PR ST LE hL hPR (by omega)
  obtain ⟨p5, y5, y5'⟩ := RF_eq N a4.1 a4.2.1 a4.2.2 (by omega)
  obtain ⟨p6, y6, y6', f6⟩ := Col_eq N s5 hs5 (by omega)
  simp only [x1, x2, x3, x4, x5, y1, y1', y2, y2', y3, y3', y4, y4', y5, y5', y6, y6', Option.bind_some, bne_self_eq_false, orO_some, ints_eq N p3.1 f3 (by omega), Bool.not_true, Bool.or_self, cond_false, withK_eq]
  -- the letters
  have hA : ∀ K : Option Bool, (bif p2.2 == 0 then w_FnShades_l1 K (r2, d2, t2, l2) p2 p3 N 0 else K) = K := by
    intro K
    cases c : (p2.2 == 0)
    · rfl
    · obtain ⟨g1, g2, g3, g4, g5⟩ := f2 (by simpa using c)
      have := sh_l1 t2 (shL r2 d2 t2) d2 l2 p2 r2 p3 (f3' g1) (length_shL _ _ _) ht2 g2 g3 g4 g5 K (p2.1 + 1).toNat 0 N (by omega) (by omega)
      rw [show ((0 : Nat) : Int) = 0 from rfl] at this
      exact this
  have hB : ∀ K : Option Bool, (bif p4.2.2 == 0 then w_FnShades_l2 K (L, PR, ST, LE) p4 N 0 else K) = K := by
    intro K
    cases c : (p4.2.2 == 0)
    · rfl
    · obtain ⟨g1, g2, g3, g4, g5, g6⟩ := f4 (by simpa using c)
      have hL' : L.length ≤ 1000 := hL
      have := sh_l2 L PR ST LE p4 hL g2 g1 g3 g4 g5 g6 K L.length 0 N (by omega) (by omega)
      rw [show ((0 : Nat) : Int) = 0 from rfl] at this
      exact this
  rw [hA, hB]
  have hC : (p6.2 == 0 && (decide (p6.1 < 0) || decide (p6.1 > (s5.length : Int)))) = false := by
    cases c : (p6.2 == 0)
    · rfl
    · have := f6 (by simpa using c)
      have c1 : ¬ p6.1 < 0 := by omega
      have c2 : ¬ p6.1 > (s5.length : Int) := by omega
      simp only [c1, c2, decide_false, Bool.or_self, Bool.and_false]
  simp only [andO_some, Option.bind_some, hC, cond_false]
  cases c : (p1.2 != 0)
  · have c' : p1.2 = 0 := by simpa using c
    obtain ⟨g1, g2, g3, g4, g5⟩ := f1 c'
    obtain ⟨u1, u2⟩ := U_pos a1.1 a1.2 g1 g3
    obtain ⟨_, _, _, w3, w4⟩ := until_val 100002 a1.1 a1.2 g1 (by omega)
    have k1 := w4 g5
    have k2 := w3 (U a1.1 a1.2 - 1) (by omega) (by omega)
    have n1 : ¬ shI a1.1 (U a1.1 a1.2) ≥ a1.2 := by omega
    have n2 : ¬ U a1.1 a1.2 < 1 := by omega
    have n3 : shI a1.1 (U a1.1 a1.2 - 1) ≥ a1.2 := by omega
    rw [cond_false, g4, ShadeAt_eq a1.1 _ g1 (by omega) g5, w64_id (x := U a1.1 a1.2 - 1) (by omega) (by omega), ShadeAt_eq a1.1 _ g1 (by omega) (by omega)]
    simp only [Option.bind_some, bne_self_eq_false, n1, n2, n3, decide_false, decide_true, Bool.or_self, cond_false, beq_self_eq_true, Bool.and_self]
  · rfl
end Go.Proofs.Ytoojddajhalimaa
