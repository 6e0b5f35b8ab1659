/-
  Plain lemmas on these functions. No conditions but those that each states.
-/
import Derived.Test.YthmocnbnlpdggaaFnSeenLettersP6
namespace Go.Proofs.Ythmocnbnlpdggaa
set_option linter.unusedVariables false
set_option linter.unusedSimpArgs false
theorem ODraw_l1 (code : List UInt8) : ∀ (k N : Nat) (s1 : L00Src) (at_ seed B : Int) (l : List Over), s1.code = code → 0 ≤ at_ → at_ + 6 * k ≤ B → B < BIG → l.length + k ≤ 8 → k + 200 < N →
    ∃ a sd l', a ≤ B ∧ 0 ≤ a ∧ l'.length ≤ 8 ∧ ∀ K, s_l12Draw_l1 K s1 N at_ seed l (k : Int) = K a sd l' := by
  intro k
  induction k with
  | zero =>
    intro N s1 at_ seed B l hs h0 h1 h2 h3 h4
    obtain ⟨N, rfl⟩ := pos_fuel (by omega : 0 < N)
    exact ⟨at_, seed, l, by omega, h0, by omega, fun K => by simp [s_l12Draw_l1]⟩
  | succ k ih =>
    intro N s1 at_ seed B l hs h0 h1 h2 h3 h4
    obtain ⟨N, rfl⟩ := pos_fuel (by omega : 0 < N)
    subst hs
    have hk : (((k + 1 : Nat) : Int) > 0) := by omega
    have hkk : w64 (((k + 1 : Nat) : Int) - 1) = (k : Int) := by rw [w64_id (by omega) (by omega)]; omega
    obtain ⟨t1, a1, s1', e1, b1, c1, _⟩ := text_mem s1.code at_ seed [[99], [111], [73], [108], [45]] (by simp) h0 (by omega)
    obtain ⟨t2, a2, s2, e2, b2, c2, _⟩ := text_mem s1.code a1 s1' [[47], [45], [39], [124]] (by simp) (by omega) (by omega)
    obtain ⟨t3, a3, s3, e3, b3, c3, _⟩ := text_mem s1.code a2 s2 [[48], [116], [33], [43], [113]] (by simp) (by omega) (by omega)
    have ea : app [] l = some l := by rw [app_some _ _ (by simp; unfold LIM; omega)]; rfl
    have eb : app l [(⟨t1, t2, t3⟩ : Over)] = some (l ++ [⟨t1, t2, t3⟩]) := app_some _ _ (by simp; unfold LIM; omega)
    obtain ⟨t, _, ht⟩ := Ok_eq (l ++ [⟨t1, t2, t3⟩]) (by simp; omega)
    obtain ⟨ho, _⟩ := ht N (by simp; omega)
    cases t
    · obtain ⟨a', sd', l', i1, i2, i3, i4⟩ := ih N s1 a3 s3 B l rfl (by omega) (by omega) h2 (by omega) (by omega)
      refine ⟨a', sd', l', i1, i2, i3, fun K => ?_⟩
      simp only [s_l12Draw_l1, hk, decide_true, cond_true, withK_eq, e1, Option.bind_some, e2, e3, ea, eb, ho, cond_false, hkk]
      exact i4 K
    · obtain ⟨a', sd', l', i1, i2, i3, i4⟩ := ih N s1 a3 s3 B (l ++ [⟨t1, t2, t3⟩]) rfl (by omega) (by omega) h2 (by simp; omega) (by omega)
      refine ⟨a', sd', l', i1, i2, i3, fun K => ?_⟩
      simp only [s_l12Draw_l1, hk, decide_true, cond_true, withK_eq, e1, Option.bind_some, e2, e3, ea, eb, ho, hkk]
      exact i4 K
theorem ODraw_ok (code : List UInt8) (at_ seed : Int) (N : Nat) (hN : 300 < N) (h0 : 0 ≤ at_) (h1 : at_ + 1000 < BIG) : ∃ a sd l, s_l12Draw N ⟨code, at_, seed⟩ = some (l, ⟨code, a, sd⟩) ∧ 0 ≤ a ∧ a ≤ at_ + 100 ∧ l.length ≤ 8 := by
  obtain ⟨v, a1, s1, e1, b1, c1, d1, f1⟩ := pick_ok code at_ seed 9 h0 (by omega)
  have f1 := f1 (by omega)
  obtain ⟨k, rfl⟩ := Int.eq_ofNat_of_zero_le d1
  obtain ⟨a, sd, l, i1, i2, i3, i4⟩ := ODraw_l1 code k N ⟨code, at_, seed⟩ a1 s1 (at_ + 100) [] rfl (by omega) (by omega) (by omega) (by simp; omega) (by omega)
  refine ⟨a, sd, l, ?_, i2, i1, i3⟩
  simp only [s_l12Draw, withK_eq, e1, Option.bind_some]
  rw [i4]
theorem OBent_l1 (r : Int × L00Src) : ∀ (k N : Nat) (l : List Over), l.length + k ≤ 21 → k < N → ∃ l', l'.length ≤ 21 ∧ ∀ K, s_l12Bent_l1 K r N l (k : Int) = K r.2.at_ r.2.seed l' := by
  intro k
  induction k with
  | zero =>
    intro N l h1 h2
    obtain ⟨N, rfl⟩ := pos_fuel h2
    exact ⟨l, by omega, fun K => by simp [s_l12Bent_l1]⟩
  | succ k ih =>
    intro N l h1 h2
    obtain ⟨N, rfl⟩ := pos_fuel h2
    have hk : (((k + 1 : Nat) : Int) > 0) := by omega
    have hkk : w64 (((k + 1 : Nat) : Int) - 1) = (k : Int) := by rw [w64_id (by omega) (by omega)]; omega
    obtain ⟨l', i1, i2⟩ := ih N (l ++ [Over.mk [(65 : UInt8) + (UInt8.ofInt (List.length l : Int))] [47] [35]]) (by simp; omega) (by omega)
    refine ⟨l', i1, fun K => ?_⟩
    simp only [s_l12Bent_l1, hk, decide_true, cond_true]
    rw [app_some _ _ (by simp; unfold LIM; omega), Option.bind_some, hkk]
    exact i2 K
theorem OBent_ok (code : List UInt8) (at_ seed : Int) (N : Nat) (hN : 300 < N) (h0 : 0 ≤ at_) (h1 : at_ + 1000 < BIG) : ∃ a sd l, s_l12Bent N ⟨code, at_, seed⟩ = some (l, ⟨code, a, sd⟩) ∧ 0 ≤ a ∧ a ≤ at_ + 200 ∧ l.length ≤ 21 := by
  obtain ⟨a1, s1, l1, e1, b1, c1, d1⟩ := ODraw_ok code at_ seed N hN h0 h1
  obtain ⟨v2, a2, s2, e2, b2, c2, _, _⟩ := pick_ok code a1 s1 20 b1 (by omega)
  obtain ⟨t3, a3, s3, e3, b3, c3, _⟩ := text_mem code a2 s2 [[], [97], [32]] (by simp) (by omega) (by omega)
  obtain ⟨t4, a4, s4, e4, b4, c4, _⟩ := text_mem code a3 s3 [[98], [98, 98]] (by simp) (by omega) (by omega)
  obtain ⟨t5, a5, s5, e5, b5, c5, _⟩ := text_mem code a4 s4 [[97], [98], [99]] (by simp) (by omega) (by omega)
  obtain ⟨v6, a6, s6, e6, b6, c6, d6, f6⟩ := pick_ok code a2 s2 2 (by omega) (by omega)
  have f6 := f6 (by omega)
  have ea : ∀ x : Over, app l1 [x] = some (l1 ++ [x]) := fun x => app_some _ _ (by simp; unfold LIM; omega)
  obtain ⟨k, hk⟩ := Int.eq_ofNat_of_zero_le (by omega : 0 ≤ 20 + v6)
  have ew : w64 (k : Int) = (k : Int) := w64_id (by omega) (by omega)
  obtain ⟨l', i1, i2⟩ := OBent_l1 (v6, ⟨code, a6, s6⟩) k N [] (by simp; omega) (by omega)
  simp only [s_l12Bent, e1, Option.bind_some, withK_eq, e2, e3, e4, e5, e6, ea, hk, ew, i2]
  cases (v2 == 0)
  · cases (v2 == 1)
    · cases (v2 == 2)
      · exact ⟨_, _, _, rfl, by omega, by omega, by omega⟩
      · exact ⟨_, _, _, rfl, by show 0 ≤ a6; omega, by show a6 ≤ at_ + 200; omega, i1⟩
    · by_cases hl : (l1.length : Int) > 0
      · have hx := idx_int l1 0 (by omega) hl
        simp only [hl, decide_true, cond_true, cond_false, hx, Option.bind_some]
        exact ⟨_, _, _, rfl, by omega, by omega, by simp; omega⟩
      · simp only [hl, decide_false, cond_true, cond_false]
        exact ⟨_, _, _, rfl, by omega, by omega, by omega⟩
  · exact ⟨_, _, _, rfl, by omega, by omega, by simp; omega⟩
theorem OLine_l1 (code : List UInt8) (m : Nat) : ∀ (n i N : Nat) (s1 : L00Src) (at_ seed B : Int) (o : Str), s1.code = code → i + n = m → 0 ≤ at_ → at_ + 2 * n ≤ B → B < BIG → m ≤ 100 → o.length = i → n < N →
    ∃ a sd o', a ≤ B ∧ 0 ≤ a ∧ o'.length = m ∧ ∀ K, s_l12DrawLine_l1 K s1 (m : Int) N o at_ seed (i : Int) = K o' a sd := by
  intro n
  induction n with
  | zero =>
    intro i N s1 at_ seed B o hs h1 h0 h2 h3 h4 ho h5
    obtain ⟨N, rfl⟩ := pos_fuel h5
    have hi : ¬ ((i : Int) < (m : Int)) := by omega
    exact ⟨at_, seed, o, by omega, h0, by omega, fun K => by simp [s_l12DrawLine_l1, hi]⟩
  | succ n ih =>
    intro i N s1 at_ seed B o hs h1 h0 h2 h3 h4 ho h5
    obtain ⟨N, rfl⟩ := pos_fuel h5
    subst hs
    have hi : (i : Int) < (m : Int) := by omega
    obtain ⟨v1, a1, s1', e1, b1, c1, d1, f1⟩ := pick_ok s1.code at_ seed 11 h0 (by omega)
    have f1 := f1 (by omega)
    have hx := idx_int ([99, 111, 32, 73, 108, 45, 48, 116, 33, 43, 113] : List UInt8) v1 d1 (by simpa using f1)
    have ea : ∀ x : UInt8, app o [x] = some (o ++ [x]) := fun x => app_some _ _ (by simp; unfold LIM; omega)
    obtain ⟨a', sd', o', i1, i2, i3, i4⟩ := ih (i + 1) N s1 a1 s1' B (o ++ [([99, 111, 32, 73, 108, 45, 48, 116, 33, 43, 113] : List UInt8)[v1.toNat]'(by simp; omega)]) rfl (by omega) (by omega) (by omega) h3 h4 (by simp; omega) (by omega)
    refine ⟨a', sd', o', i1, i2, i3, fun K => ?_⟩
    simp only [s_l12DrawLine_l1, hi, decide_true, cond_true, e1, Option.bind_some, hx, ea, w64_nat i (by omega)]
    exact i4 K
theorem OLine_ok (code : List UInt8) (at_ seed n : Int) (N : Nat) (hN : 300 < N) (h0 : 0 ≤ at_) (h1 : at_ + 1000 < BIG) (hn0 : 0 ≤ n) (hn : n ≤ 61) : ∃ o a sd, s_l12DrawLine N ⟨code, at_, seed⟩ n = some (o, ⟨code, a, sd⟩) ∧ 0 ≤ a ∧ a ≤ at_ + 200 ∧ o.length ≤ 61 := by
  obtain ⟨m, rfl⟩ := Int.eq_ofNat_of_zero_le hn0
  obtain ⟨a, sd, o, i1, i2, i3, i4⟩ := OLine_l1 code m m 0 N ⟨code, at_, seed⟩ at_ seed (at_ + 200) [] rfl (by omega) h0 (by omega) (by omega) (by omega) rfl (by omega)
  rw [show ((0 : Nat) : Int) = 0 from rfl] at i4
  refine ⟨o, a, sd, ?_, i2, i1, by omega⟩
  simp only [s_l12DrawLine, withK_eq, i4]
theorem ONear_l1 (code : List UInt8) : ∀ (k N : Nat) (s1 : L00Src) (at_ seed B : Int) (o : Str), s1.code = code → 0 ≤ at_ → at_ + 4 * k ≤ B → B < BIG → k < N → k ≤ 100 →
    ∃ a sd o', a ≤ B ∧ 0 ≤ a ∧ o'.length = o.length ∧ ∀ K, s_l12Near_l1 K s1 N at_ seed o (k : Int) = K a sd o' := by
  intro k
  induction k with
  | zero =>
    intro N s1 at_ seed B o hs h0 h2 h3 h5 _
    obtain ⟨N, rfl⟩ := pos_fuel h5
    exact ⟨at_, seed, o, by omega, h0, rfl, fun K => by simp [s_l12Near_l1]⟩
  | succ k ih =>
    intro N s1 at_ seed B o hs h0 h2 h3 h5 h6
    obtain ⟨N, rfl⟩ := pos_fuel h5
    subst hs
    have hk : (((k + 1 : Nat) : Int) > 0) := by omega
    have hkk : w64 (((k + 1 : Nat) : Int) - 1) = (k : Int) := by rw [w64_id (by omega) (by omega)]; omega
    by_cases hl : (o.length : Int) > 0
    · obtain ⟨v0, a0, s0, e0, b0, c0, d0, f0⟩ := pick_ok s1.code at_ seed (o.length : Int) h0 (by omega)
      have f0 := f0 (by omega)
      obtain ⟨v1, a1, s1', e1, b1, c1, d1, f1⟩ := pick_ok s1.code a0 s0 11 (by omega) (by omega)
      have f1 := f1 (by omega)
      have hx := idx_int ([99, 111, 32, 73, 108, 45, 48, 116, 33, 43, 113] : List UInt8) v1 d1 (by simpa using f1)
      have hy := idx_int o v0 d0 f0
      obtain ⟨a', sd', o', i1, i2, i3, i4⟩ := ih N s1 a1 s1' B (o.set v0.toNat (([99, 111, 32, 73, 108, 45, 48, 116, 33, 43, 113] : List UInt8)[v1.toNat]'(by simp; omega))) rfl (by omega) (by omega) h3 (by omega) (by omega)
      refine ⟨a', sd', o', i1, i2, by simpa using i3, fun K => ?_⟩
      simp only [s_l12Near_l1, hk, hl, decide_true, andO_some, Bool.and_self, Option.bind_some, cond_true, e0, e1, hx, hy, hkk]
      exact i4 K
    · exact ⟨at_, seed, o, by omega, h0, rfl, fun K => by simp only [s_l12Near_l1, hk, hl, decide_true, decide_false, andO_true, Option.bind_some, cond_false]⟩
theorem ONear_ok (code : List UInt8) (at_ seed : Int) (o : Str) (N : Nat) (hN : 300 < N) (h0 : 0 ≤ at_) (h1 : at_ + 1000 < BIG) (ho : o.length ≤ 1000) : ∃ o' a sd, s_l12Near N ⟨code, at_, seed⟩ o = some (o', ⟨code, a, sd⟩) ∧ 0 ≤ a ∧ a ≤ at_ + 100 ∧ o'.length = o.length := by
  obtain ⟨v1, a1, s1, e1, b1, c1, d1, f1⟩ := pick_ok code at_ seed 6 h0 (by omega)
  have f1 := f1 (by omega)
  obtain ⟨k, rfl⟩ := Int.eq_ofNat_of_zero_le d1
  obtain ⟨a, sd, o', i1, i2, i3, i4⟩ := ONear_l1 code k N ⟨code, at_, seed⟩ a1 s1 (at_ + 100) o rfl (by omega) (by omega) (by omega) (by omega) (by omega)
  have ea : app ([] : Str) o = some o := by rw [app_some _ _ (by simp; unfold LIM; omega)]; rfl
  refine ⟨o', a, sd, ?_, i2, i1, i3⟩
  simp only [s_l12Near, ea, Option.bind_some, withK_eq, e1, i4]
theorem OTwo_ok (code : List UInt8) (N : Nat) (hN : 300 < N) : ∃ p : List Over × Str × Str, s_l12Two N code = some p ∧ p.1.length ≤ 21 ∧ p.2.1.length ≤ 62 ∧ p.2.2.length ≤ 62 := by
  have hb : BIG = 1152921504606846976 := rfl
  obtain ⟨a1, s1, l1, e1, b1, c1, d1⟩ := OBent_ok code 0 0 N hN (by omega) (by omega)
  obtain ⟨v2, a2, s2, e2, b2, c2, d2, f2⟩ := pick_ok code a1 s1 16 b1 (by omega)
  have f2 := f2 (by omega)
  obtain ⟨v3, a3, s3, e3, b3, c3⟩ := one_ok code a2 s2 20 (by omega) (by omega)
  have fin : ∀ (a sd n : Int), 0 ≤ a → a ≤ 300 → 0 ≤ n → n ≤ 61 → ∃ p : List Over × Str × Str, ((s_l12DrawLine N (L00Src.mk code a sd) n).bind fun r22 =>
      (s_l12Near N (L00Src.mk code r22.2.at_ r22.2.seed) r22.1).bind fun r24 =>
      withK (fun (typed26 : Str) (want27 : Str) =>
      some (l1, typed26, want27)) fun (k28 : Str → Str → Option ((List Over) × Str × Str)) =>
      (s_l00Src_pick (L00Src.mk code r24.2.at_ r24.2.seed) 16).bind fun r30 =>
      bif (r30.1 == 0) then
      (cat r24.1 [99]).bind fun s33 =>
      k28 r22.1 s33
      else
      bif (r30.1 == 1) then
      (cat r22.1 [127]).bind fun s36 =>
      (cat r24.1 [99]).bind fun s38 =>
      k28 s36 s38
      else
      k28 r22.1 r24.1) = some p ∧ p.1.length ≤ 21 ∧ p.2.1.length ≤ 62 ∧ p.2.2.length ≤ 62 := by
    intro a sd n h0 h1 hn0 hn
    obtain ⟨o, a4, s4, e4, b4, c4, d4⟩ := OLine_ok code a sd n N hN h0 (by omega) hn0 hn
    obtain ⟨o5, a5, s5, e5, b5, c5, d5⟩ := ONear_ok code a4 s4 o N hN b4 (by omega) (by omega)
    obtain ⟨v6, a6, s6, e6, b6, c6, _, _⟩ := pick_ok code a5 s5 16 b5 (by omega)
    have k1 : cat o5 [99] = some (o5 ++ [99]) := cat_some _ _ (by simp; unfold LIM; omega)
    have k2 : cat o [127] = some (o ++ [127]) := cat_some _ _ (by simp; unfold LIM; omega)
    simp only [e4, Option.bind_some, e5, withK_eq, e6, k1, k2]
    cases (v6 == 0)
    · cases (v6 == 1)
      · exact ⟨_, rfl, d1, by show o.length ≤ 62; omega, by show o5.length ≤ 62; omega⟩
      · exact ⟨_, rfl, d1, by simp; omega, by simp; omega⟩
    · exact ⟨_, rfl, d1, by show o.length ≤ 62; omega, by simp; omega⟩
  unfold s_l12Two
  simp only [s_l00From, Option.bind_some, e1, e2, e3]
  cases v3
  · obtain ⟨p, g1, g2⟩ := fin a3 s3 v2 (by omega) (by omega) d2 (by omega)
    exact ⟨p, by simpa only [withK_eq, cond_false] using g1, g2⟩
  · obtain ⟨v7, a7, s7, e7, b7, c7, d7, f7⟩ := pick_ok code a3 s3 2 (by omega) (by omega)
    have f7 := f7 (by omega)
    obtain ⟨p, g1, g2⟩ := fin a7 s7 (60 + v7) (by omega) (by omega) (by omega) (by omega)
    have ew : w64 (60 + v7) = 60 + v7 := w64_id (by omega) (by omega)
    exact ⟨p, by simpa only [withK_eq, cond_true, e7, Option.bind_some, ew] using g1, g2⟩
theorem OPlan_l1 (code : List UInt8) : ∀ (k N : Nat) (s1 : L00Src) (at_ seed B : Int) (o : Str), s1.code = code → 0 ≤ at_ → at_ + 2 * k ≤ B → B < BIG → o.length + k ≤ 61 → k < N →
    ∃ a sd o', a ≤ B ∧ 0 ≤ a ∧ o'.length = o.length + k ∧ ∀ K, s_l12DrawPlan_l1 K s1 N at_ seed o (k : Int) = K a sd o' := by
  intro k
  induction k with
  | zero =>
    intro N s1 at_ seed B o hs h0 h2 h3 h4 h5
    obtain ⟨N, rfl⟩ := pos_fuel h5
    exact ⟨at_, seed, o, by omega, h0, by omega, fun K => by simp [s_l12DrawPlan_l1]⟩
  | succ k ih =>
    intro N s1 at_ seed B o hs h0 h2 h3 h4 h5
    obtain ⟨N, rfl⟩ := pos_fuel h5
    subst hs
    have hk : (((k + 1 : Nat) : Int) > 0) := by omega
    have hkk : w64 (((k + 1 : Nat) : Int) - 1) = (k : Int) := by rw [w64_id (by omega) (by omega)]; omega
    obtain ⟨v1, a1, s1', e1, b1, c1, d1, f1⟩ := pick_ok s1.code at_ seed 4 h0 (by omega)
    have f1 := f1 (by omega)
    have hx := idx_int ([46, 43, 35, 35] : List UInt8) v1 d1 (by simpa using f1)
    have ea : ∀ x : UInt8, app o [x] = some (o ++ [x]) := fun x => app_some _ _ (by simp; unfold LIM; omega)
    obtain ⟨a', sd', o', i1, i2, i3, i4⟩ := ih N s1 a1 s1' B (o ++ [([46, 43, 35, 35] : List UInt8)[v1.toNat]'(by simp; omega)]) rfl (by omega) (by omega) h3 (by simp; omega) (by omega)
    refine ⟨a', sd', o', i1, i2, by rw [i3]; simp; omega, fun K => ?_⟩
    simp only [s_l12DrawPlan_l1, hk, decide_true, cond_true, e1, Option.bind_some, hx, ea, hkk]
    exact i4 K
theorem OPlan_ok (code : List UInt8) (at_ seed : Int) (N : Nat) (hN : 300 < N) (h0 : 0 ≤ at_) (h1 : at_ + 1000 < BIG) : ∃ o a sd, s_l12DrawPlan N ⟨code, at_, seed⟩ = some (o, ⟨code, a, sd⟩) ∧ 0 ≤ a ∧ a ≤ at_ + 300 ∧ o.length ≤ 61 := by
  obtain ⟨v, a1, s1, e1, b1, c1, d1, f1⟩ := pick_ok code at_ seed 12 h0 (by omega)
  have f1 := f1 (by omega)
  obtain ⟨v2, a2, s2, e2, b2, c2⟩ := one_ok code a1 s1 20 (by omega) (by omega)
  have fin : ∀ (a sd n : Int), 0 ≤ a → a ≤ at_ + 10 → 0 ≤ n → n ≤ 61 → ∃ o a' sd', (withK (fun (x18 : Int) (x19 : Int) (l20 : List UInt8) =>
      withK (fun (x38 : Int) (x39 : Int) (l40 : List UInt8) =>
      some (l40, (L00Src.mk code x38 x39))) fun (k41 : Int → Int → (List UInt8) → Option (Str × L00Src)) =>
      (bif decide (n > 0) then (s_l00Src_one (L00Src.mk code x18 x19) 16).bind fun r47 =>
      some (r47.1, (L00Src.mk code r47.2.at_ r47.2.seed)) else some (false, (L00Src.mk code x18 x19))).bind fun x45 =>
      bif x45.1 then
      (idx l20 0).bind fun e50 =>
      k41 x45.2.at_ x45.2.seed (List.set l20 (Int.toNat 0) 120)
      else
      k41 x45.2.at_ x45.2.seed l20) fun (k22 : Int → Int → (List UInt8) → Option (Str × L00Src)) =>
      s_l12DrawPlan_l1 k22 ⟨code, at_, seed⟩ N a sd [] n) = some (o, ⟨code, a', sd'⟩) ∧ 0 ≤ a' ∧ a' ≤ at_ + 300 ∧ o.length ≤ 61 := by
    intro a sd n ha hb hn hn2
    obtain ⟨k, rfl⟩ := Int.eq_ofNat_of_zero_le hn
    obtain ⟨a4, s4, o4, i1, i2, i3, i4⟩ := OPlan_l1 code k N ⟨code, at_, seed⟩ a sd (at_ + 200) [] rfl ha (by omega) (by omega) (by simp; omega) (by omega)
    simp only [List.length_nil, Nat.zero_add] at i3
    simp only [withK_eq]
    rw [i4]
    obtain ⟨v5, a5, s5, e5, b5, c5⟩ := one_ok code a4 s4 16 (by omega) (by omega)
    by_cases g : (k : Int) > 0
    · have hx := idx_int o4 0 (by omega) (by omega)
      simp only [g, decide_true, cond_true, e5, Option.bind_some, hx]
      cases v5
      · exact ⟨_, _, _, rfl, by omega, by omega, by omega⟩
      · exact ⟨_, _, _, rfl, by omega, by omega, by simp; omega⟩
    · simp only [g, decide_false, cond_false, Option.bind_some]
      exact ⟨_, _, _, rfl, by omega, by omega, by omega⟩
  unfold s_l12DrawPlan
  simp only [e1, Option.bind_some, e2]
  cases v2
  · obtain ⟨o, a', sd', g1, g2⟩ := fin a2 s2 v (by omega) (by omega) d1 (by omega)
    exact ⟨o, a', sd', by simpa only [withK_eq, cond_false] using g1, g2⟩
  · obtain ⟨v7, a7, s7, e7, b7, c7, d7, f7⟩ := pick_ok code a2 s2 2 (by omega) (by omega)
    have f7 := f7 (by omega)
    obtain ⟨o, a', sd', g1, g2⟩ := fin a7 s7 (60 + v7) (by omega) (by omega) (by omega) (by omega)
    have ew : w64 (60 + v7) = 60 + v7 := w64_id (by omega) (by omega)
    exact ⟨o, a', sd', by simpa only [withK_eq, cond_true, e7, Option.bind_some, ew] using g1, g2⟩
end Go.Proofs.Ythmocnbnlpdggaa
