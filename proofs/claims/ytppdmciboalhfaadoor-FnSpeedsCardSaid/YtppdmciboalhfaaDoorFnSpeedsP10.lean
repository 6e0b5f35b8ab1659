/-
  Plain lemmas on these functions. No conditions but those that each states.
-/
import Derived.Test.YtppdmciboalhfaaDoorFnSpeedsP9
namespace Go.Proofs.YtppdmciboalhfaaDoor
set_option linter.unusedVariables false
set_option linter.unusedSimpArgs false
/-! The law. -/
theorem beqF (f : Fraction) : Fraction.beq f f = true := by simp [Fraction.beq]
theorem beqT (f : Trial) : Trial.beq f f = true := by simp [Trial.beq]
theorem mk_eta (x : Trial) : Trial.mk x.strokes x.errors x.seconds = x := by cases x; rfl
theorem Net_both (x : Trial) (p : Int) : i_NetStrokes x p = some (if cod x p = 0 then netW x p else 0, cod x p) ∧ s_NetStrokes x p = some (if cod x p = 0 then netW x p else 0, cod x p) := by
  unfold i_NetStrokes s_NetStrokes
  simp only [mk_eta, cod_i, cod_s, Option.bind_some, net_i, net_s]
  by_cases h : cod x p = 0
  · have : (cod x p != 0) = false := by simp [h]
    rw [this, if_pos h, cond_false, h]; exact ⟨rfl, rfl⟩
  · have : (cod x p != 0) = true := by simpa using h
    rw [this, if_neg h, cond_true]; exact ⟨rfl, rfl⟩
theorem Per_both (N : Nat) (hN : 1000010 ≤ N) (x : Trial) (p : Int) (q : Int) (hq : q = 60 ∨ q = 12) : ∃ f : Fraction, (cod x p = 0 → f.num * x.seconds = q * netW x p * f.den) ∧
    ((i_trialCode x p).bind fun r5 => bif (r5 != 0) then some ((Fraction.mk 0 0), r5) else (i_Trial_net x p).bind fun r8 => (i_lowest N (w64 (q * r8)) x.seconds).bind fun r10 => some (r10, (0 : Int))) = some (f, cod x p) ∧
    ((s_l20Code x p).bind fun r5 => bif (r5 != 0) then some ((Fraction.mk 0 0), r5) else (s_l20Net x p).bind fun r8 => (s_l02Make N (w64 (q * r8)) x.seconds).bind fun r10 => some (r10, (0 : Int))) = some (f, cod x p) ∧ (cod x p = 0 → f.den ≤ x.seconds ∧ 0 < f.den ∧ 0 ≤ f.num ∧ f.num ≤ q * netW x p) := by
  simp only [cod_i, cod_s, Option.bind_some, net_i, net_s]
  by_cases h : cod x p = 0
  · have hb : (cod x p != 0) = false := by simp [h]
    obtain ⟨hx, hp1, hp2⟩ := cod_zero h
    obtain ⟨h1, h2, h3, h4, h5, h6⟩ := okTr_facts hx
    obtain ⟨g1, g2, g3⟩ := net_facts hx hp1 hp2
    have ew : w64 (q * netW x p) = q * netW x p := by rcases hq with rfl | rfl <;> exact w64_id (by omega) (by omega)
    obtain ⟨f, e1, e2, e3, e4, e5, e6, e7⟩ := low_ok' N (q * netW x p) x.seconds (by omega) (by omega) (by rcases hq with rfl | rfl <;> omega) (by rcases hq with rfl | rfl <;> omega) hN
    rw [hb, cond_false, cond_false, ew, e1, e2, h]
    exact ⟨f, fun _ => e3, rfl, rfl, fun _ => ⟨e7, e5, e4, e6⟩⟩
  · have hb : (cod x p != 0) = true := by simpa using h
    rw [hb, cond_true, cond_true]
    exact ⟨⟨0, 0⟩, fun e => absurd e h, rfl, rfl, fun e => absurd e h⟩
theorem mul_b {a b m n : Int} (ha : 0 ≤ a) (ha2 : a ≤ m) (hb : 0 ≤ b) (hb2 : b ≤ n) : 0 ≤ a * b ∧ a * b ≤ m * n :=
  ⟨Int.mul_nonneg ha hb, Int.mul_le_mul ha2 hb2 hb (by omega)⟩
theorem Need_both (w e p s : Int) : ∃ r : Int × Int, i_StrokesNeeded w e p s = some r ∧ s_StrokesNeeded w e p s = some r ∧
    (r.2 = 0 → (0 ≤ w ∧ w ≤ 1000) ∧ (0 ≤ e ∧ e ≤ 1000) ∧ (0 ≤ p ∧ p ≤ 50) ∧ (1 ≤ s ∧ s ≤ 7200) ∧ e ≤ r.1 ∧ r.1 ≤ 100000 ∧ w * s ≤ 12 * (r.1 - p * e)) := by
  unfold i_StrokesNeeded s_StrokesNeeded
  simp only [pen_i, pen_s, tho_i, inB_i, inB_s, Option.bind_some, orO_some]
  have hor : (((!inB w 0 1000 || !inB e 0 1000) || !inB p 0 50) || !inB s 1 7200) = (((!inB p 0 50 || !inB w 0 1000) || !inB e 0 1000) || !inB s 1 7200) := by
    cases inB w 0 1000 <;> cases inB e 0 1000 <;> cases inB p 0 50 <;> cases inB s 1 7200 <;> rfl
  rw [hor]
  cases hb : (((!inB p 0 50 || !inB w 0 1000) || !inB e 0 1000) || !inB s 1 7200) with
  | true => exact ⟨(0, 2), rfl, rfl, fun h => absurd h (by decide)⟩
  | false =>
    simp only [Bool.or_eq_false_iff, Bool.not_eq_false'] at hb
    obtain ⟨⟨⟨h1, h2⟩, h3⟩, h4⟩ := hb
    have h1 := inB_iff.1 h1
    have h2 := inB_iff.1 h2
    have h3 := inB_iff.1 h3
    have h4 := inB_iff.1 h4
    obtain ⟨b1, b2⟩ := mul_b h1.1 h1.2 h3.1 h3.2
    obtain ⟨b3, b4⟩ := mul_b h2.1 h2.2 (by omega : (0 : Int) ≤ s) h4.2
    have e1 : w64 (p * e) = p * e := w64_id (by omega) (by omega)
    have e2 : w64 (w * s) = w * s := w64_id (by omega) (by omega)
    have e3 : w64 (w * s + 11) = w * s + 11 := w64_id (by omega) (by omega)
    have e4 : w64 (Int.tdiv (w * s + 11) 12) = (w * s + 11) / 12 := by rw [Int.tdiv_eq_ediv_of_nonneg (by omega), w64_id (by omega) (by omega)]
    have e5 : w64 (p * e + (w * s + 11) / 12) = p * e + (w * s + 11) / 12 := w64_id (by omega) (by omega)
    have e6 : w64 ((w * s + 11) / 12 + p * e) = p * e + (w * s + 11) / 12 := by rw [w64_id (by omega) (by omega)]; omega
    have e7 : s_l00Max (p * e + (w * s + 11) / 12) e = some (imax e (p * e + (w * s + 11) / 12)) := by
      unfold s_l00Max imax
      by_cases q : p * e + (w * s + 11) / 12 > e
      · simp [q]
      · simp [q]
    simp only [cond_false, e1, e2, e3, e4, e5, e6, e7, Option.bind_some]
    by_cases q : imax e (p * e + (w * s + 11) / 12) > 100000
    · simp only [q, decide_true, cond_true]
      exact ⟨(0, 5), rfl, rfl, fun h => absurd h (by decide)⟩
    · simp only [q, decide_false, cond_false]
      refine ⟨_, rfl, rfl, fun _ => ⟨h2, h3, h1, h4, ?_⟩⟩
      have m1 : e ≤ imax e (p * e + (w * s + 11) / 12) ∧ p * e + (w * s + 11) / 12 ≤ imax e (p * e + (w * s + 11) / 12) := by
        unfold imax; split <;> omega
      exact ⟨m1.1, by show imax _ _ ≤ 100000; omega, by show w * s ≤ 12 * (imax _ _ - p * e); omega⟩
theorem Pass_both (x : Trial) (p w m : Int) : ∃ r : Bool × Int, i_PassesTest x p w m = some r ∧ s_PassesTest x p w m = some r ∧ (okTr x = true → inB p 0 50 = true → inB w 0 1000 = true → inB m 0 1000 = true →
      r = (decide (w64 (12 * netW x p) ≥ w64 (w * x.seconds)) && decide (w64 (1000 * x.errors) ≤ w64 (m * x.strokes)), 0)) := by
  unfold i_PassesTest s_PassesTest
  simp only [mk_eta, okTr_i, cod_s, pen_i, tho_i, inB_s, Option.bind_some, orO_some, andO_some, net_i, net_s, withK_eq]
  unfold cod
  cases okTr x with
  | false => exact ⟨(false, 1), rfl, rfl, fun h => by cases h⟩
  | true =>
    cases inB p 0 50 with
    | false => exact ⟨(false, 2), rfl, rfl, fun _ h => by cases h⟩
    | true =>
      cases inB w 0 1000 with
      | false => exact ⟨(false, 2), rfl, rfl, fun _ _ h => by cases h⟩
      | true =>
        cases inB m 0 1000 with
        | false => exact ⟨(false, 2), rfl, rfl, fun _ _ _ h => by cases h⟩
        | true => exact ⟨_, rfl, rfl, fun _ _ _ _ => rfl⟩
theorem Share_both (N : Nat) (hN : 1000010 ≤ N) (x : Trial) : ∃ r : Fraction × Int, i_ErrorShare N x = some r ∧ s_ErrorShare N x = some r ∧ (r.2 = 0 → 0 ≤ r.1.num ∧ r.1.num ≤ w64 (1000 * r.1.den)) := by
  unfold i_ErrorShare s_ErrorShare
  simp only [mk_eta, okTr_i, okTr_s, Option.bind_some]
  cases h : okTr x with
  | false => exact ⟨(⟨0, 0⟩, 1), rfl, rfl, fun e => absurd e (by decide)⟩
  | true =>
    obtain ⟨h1, h2, h3, h4, h5, h6⟩ := okTr_facts h
    by_cases hs : x.strokes = 0
    · have : (x.strokes == 0) = true := by simpa using hs
      rw [this]
      exact ⟨(⟨0, 0⟩, 3), rfl, rfl, fun e => absurd e (by decide)⟩
    · have hb : (x.strokes == 0) = false := by simpa using hs
      have ew : w64 (1000 * x.errors) = 1000 * x.errors := w64_id (by omega) (by omega)
      obtain ⟨f, e1, e2, e3, e4, e5, e6, e7⟩ := low_ok' N (1000 * x.errors) x.strokes (by omega) (by omega) (by omega) (by omega) hN
      simp only [hb, Bool.not_true, cond_false, ew, e1, e2, Option.bind_some]
      refine ⟨(f, 0), rfl, rfl, fun _ => ⟨e4, ?_⟩⟩
      show f.num ≤ w64 (1000 * f.den)
      rw [w64_id (by omega) (by omega)]
      refine Int.le_of_mul_le_mul_right ?_ (by omega : 0 < x.strokes)
      rw [e3]
      have q1 : 1000 * x.errors * f.den ≤ 1000 * x.strokes * f.den := Int.mul_le_mul_of_nonneg_right (by omega) (by omega)
      have q2 : 1000 * x.strokes * f.den = 1000 * f.den * x.strokes := by rw [Int.mul_assoc, Int.mul_comm x.strokes, ← Int.mul_assoc]
      omega
theorem law_FnSpeeds (code : List UInt8) (_ : wfL wfByte code) : ∃ N, w_FnSpeeds N code = some true := by
  refine ⟨1000100, ?_⟩
  obtain ⟨N, hN⟩ : ∃ N, N = 1000100 := ⟨_, rfl⟩
  rw [← hN]
  unfold w_FnSpeeds w_f6big
  rw [Option.bind_some]
  cases (decide ((code.length : Int) > 4096))
  case true => rfl
  rw [cond_false]
  obtain ⟨⟨x, p⟩, d1⟩ := Draw1 code
  obtain ⟨⟨w, e, pe, se⟩, d2⟩ := Draw2 code
  obtain ⟨⟨y, b1, b2, b3⟩, d3⟩ := Draw3 code
  obtain ⟨g, d4, d5⟩ := Draw4 code
  obtain ⟨s, d6, hs⟩ := Draw5 N code (by omega)
  obtain ⟨f1, k1, k2, k3, k4⟩ := Per_both N (by omega) x p 60 (.inl rfl)
  obtain ⟨f2, l1, l2, l3, l4⟩ := Per_both N (by omega) x p 12 (.inr rfl)
  have p1 : i_StrokesPerMinute N x p = some (f1, cod x p) := k2
  have p2 : s_StrokesPerMinute N x p = some (f1, cod x p) := by unfold s_StrokesPerMinute; rw [mk_eta]; exact k3
  have p3 : i_WordsPerMinute N x p = some (f2, cod x p) := l2
  have p4 : s_WordsPerMinute N x p = some (f2, cod x p) := by unfold s_WordsPerMinute; rw [mk_eta]; exact l3
  obtain ⟨p5, p6⟩ := Net_both x p
  obtain ⟨r28, p7, p8, n1⟩ := Need_both w e pe se
  obtain ⟨r35, p9, p10, _⟩ := Pass_both y b1 b2 b3
  obtain ⟨r42, p11, p12, n2⟩ := Share_both N (by omega) g
  obtain ⟨r58, p13, p14⟩ := Read_both N s (by omega) (by omega)
  -- the text of a trial
  obtain ⟨tx, rd, p15, p16, p17, n3, n4⟩ : ∃ (tx : Str) (rd : Trial × Bool), i_TrialText g = some tx ∧ s_TrialText N g = some tx ∧ i_ReadTrial N tx = some rd ∧ rd.2 = (tx != []) ∧ (rd.2 = true → rd.1 = g) := by
    cases h : okTr g with
    | true =>
      obtain ⟨h1, h2, h3, h4, h5, h6⟩ := okTr_facts h
      refine ⟨_, _, iText_ok g h, ?_, iRead_frm N g h (by omega), ?_, fun _ => rfl⟩
      · unfold s_TrialText; rw [mk_eta, okTr_s, h, Option.bind_some, sText_ok N g (by omega) (by omega) (by omega) (by omega)]; rfl
      · unfold frm; simp
    | false =>
      refine ⟨[], (⟨0, 0, 0⟩, false), ?_, ?_, ?_, rfl, fun h => by cases h⟩
      · unfold i_TrialText; rw [okTr_i, h]; rfl
      · unfold s_TrialText; rw [mk_eta, okTr_s, h]; rfl
      · obtain ⟨r, q1, q2, q3⟩ := iRead_ok N [] (by simp) (by omega)
        cases hr : r.2 with
        | false => rw [q1, q2 hr]
        | true =>
          obtain ⟨_, q4⟩ := q3 hr
          have := congrArg List.length q4
          unfold frm at this
          simp at this
  have hbt : (rd.2 && !(Trial.beq rd.1 g)) = false := by
    cases h : rd.2 with
    | false => rfl
    | true => rw [n4 h, beqT]; rfl
  have hsh : (r42.2 == 0 && (decide (r42.1.num < 0) || decide (r42.1.num > w64 (1000 * r42.1.den)))) = false := by
    by_cases h : r42.2 = 0
    · obtain ⟨a, b⟩ := n2 h
      have a' : ¬ r42.1.num < 0 := by omega
      have b' : ¬ r42.1.num > w64 (1000 * r42.1.den) := by omega
      simp [a', b']
    · have : (r42.2 == 0) = false := by simpa using h
      rw [this]; rfl
  simp only [d1, d2, d3, d4, d5, d6, p1, p2, p3, p4, p5, p6, p7, p8, p9, p10, p11, p12, p13, p14, p15, p16, p17, Option.bind_some, bne_self_eq_false, beqF, beqT, Bool.not_true, orO_some, Bool.or_self, n3, andO_some, cond_false, withK_eq]
  rw [n3] at hbt
  rw [hbt]
  simp only [Bool.or_self, cond_false, hsh]
  -- what goes on in any case
  have fin : (bif (cod x p != 0) then some true else
      bif ((decide ((if cod x p = 0 then netW x p else 0) < 0) || decide ((if cod x p = 0 then netW x p else 0) > x.strokes)) || (w64 (f1.num * x.seconds) != w64 (w64 (60 * (if cod x p = 0 then netW x p else 0)) * f1.den)) || (w64 (f2.num * x.seconds) != w64 (w64 (12 * (if cod x p = 0 then netW x p else 0)) * f2.den))) then some false else
      bif (p == 50) then some true else
      (i_NetStrokes x (w64 (p + 1))).bind fun r150 => some (r150.2 == 0 && decide (r150.1 ≤ (if cod x p = 0 then netW x p else 0)))) = some true := by
    by_cases h : cod x p = 0
    · have hb : (cod x p != 0) = false := by simp [h]
      obtain ⟨hx, hp1, hp2⟩ := cod_zero h
      obtain ⟨h1, h2, h3, h4, h5, h6⟩ := okTr_facts hx
      obtain ⟨g1, g2, g3⟩ := net_facts hx hp1 hp2
      have w1 : w64 (60 * netW x p) = 60 * netW x p := w64_id (by omega) (by omega)
      have w2 : w64 (12 * netW x p) = 12 * netW x p := w64_id (by omega) (by omega)
      have a1 : ¬ netW x p < 0 := by omega
      have a2 : ¬ netW x p > x.strokes := by omega
      rw [hb, if_pos h, w1, w2, k1 h, l1 h]
      simp only [a1, a2, decide_false, bne_self_eq_false, Bool.or_self, cond_false]
      by_cases h50 : p = 50
      · have : (p == 50) = true := by simpa using h50
        rw [this]; rfl
      · have : (p == 50) = false := by simpa using h50
        have w3 : w64 (p + 1) = p + 1 := w64_id (by omega) (by omega)
        have hc : cod x (p + 1) = 0 := cod_ok hx (by omega)
        rw [this, cond_false, w3, (Net_both x (p + 1)).1, Option.bind_some, if_pos hc, hc]
        have e1 := net_eq hx hp1 hp2
        have e2 := net_eq hx (p := p + 1) (by omega) (by omega)
        have e3 : (p + 1) * x.errors = p * x.errors + x.errors := by rw [Int.add_mul, Int.one_mul]
        have : netW x (p + 1) ≤ netW x p := by
          rw [e1, e2, e3]
          unfold imax
          split <;> split <;> omega
        simp [this]
    · have hb : (cod x p != 0) = true := by simpa using h
      rw [hb, cond_true]
  by_cases hn : r28.2 = 0
  · obtain ⟨c1, c2, c3, c4, c5, c6, c7⟩ := n1 hn
    have hb : (r28.2 == 0) = true := by simpa using hn
    obtain ⟨m1, m2⟩ := mul_b c3.1 c3.2 c2.1 c2.2
    obtain ⟨m3, m4⟩ := mul_b c1.1 c1.2 (by omega : (0 : Int) ≤ se) c4.2
    have w1 : w64 (pe * e) = pe * e := w64_id (by omega) (by omega)
    have w2 : w64 (r28.1 - pe * e) = r28.1 - pe * e := w64_id (by omega) (by omega)
    have w3 : w64 (12 * (r28.1 - pe * e)) = 12 * (r28.1 - pe * e) := w64_id (by omega) (by omega)
    have w4 : w64 (w * se) = w * se := w64_id (by omega) (by omega)
    have a1 : ¬ 12 * (r28.1 - pe * e) < w * se := by omega
    have a2 : ¬ r28.1 < e := by omega
    have hx : okTr (Trial.mk r28.1 e se) = true := by
      unfold okTr
      simp only [Bool.and_eq_true, decide_eq_true_eq]
      omega
    obtain ⟨r, q1, _, q3⟩ := Pass_both (Trial.mk r28.1 e se) pe w 1000
    have q4 := q3 hx (inB_iff.2 c3) (inB_iff.2 c1) (inB_iff.2 (by omega))
    have e1 := net_eq hx c3.1 c3.2
    have hge : r28.1 - pe * e ≤ netW (Trial.mk r28.1 e se) pe ∧ netW (Trial.mk r28.1 e se) pe ≤ 100000 := by
      have := net_facts hx c3.1 c3.2
      simp only at this
      omega
    have hnn := (net_facts hx c3.1 c3.2).1
    have w5 : w64 (12 * netW (Trial.mk r28.1 e se) pe) = 12 * netW (Trial.mk r28.1 e se) pe := w64_id (by omega) (by omega)
    have w6 : w64 (1000 * e) = 1000 * e := w64_id (by omega) (by omega)
    have w7 : w64 (1000 * r28.1) = 1000 * r28.1 := w64_id (by omega) (by omega)
    have hr : r = (true, 0) := by
      rw [q4]
      simp only [w5, w4, w6, w7]
      have t1 : 12 * netW (Trial.mk r28.1 e se) pe ≥ w * se := by omega
      have t2 : 1000 * e ≤ 1000 * r28.1 := by omega
      simp only [t1, t2, decide_true, Bool.and_self]
    rw [hr] at q1
    simp only [hb, cond_true, w1, w2, w3, w4, a1, a2, decide_false, Bool.or_self, cond_false, q1, Option.bind_some, bne_self_eq_false, Bool.not_true]
    exact fin
  · have hb : (r28.2 == 0) = false := by simpa using hn
    simp only [hb, cond_false]
    exact fin
end Go.Proofs.YtppdmciboalhfaaDoor
