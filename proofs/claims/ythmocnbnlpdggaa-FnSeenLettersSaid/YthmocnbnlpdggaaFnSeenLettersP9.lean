/-
  Plain lemmas on these functions. No conditions but those that each states.
-/
import Derived.Test.YthmocnbnlpdggaaFnSeenLettersP8
namespace Go.Proofs.Ythmocnbnlpdggaa
set_option linter.unusedVariables false
set_option linter.unusedSimpArgs false
def D (a b : Str) (s : Int) : Nat := dc a b s (-60) 180
theorem dif_l (a b : Str) (sh : Int) (ha : a.length ≤ 1000) (hb : b.length ≤ 1000) (h0 : -100 ≤ sh) (h1 : sh ≤ 100) : ∀ (n N m : Nat) (i : Int), i + n = 120 → -60 ≤ i → n < N → m + n ≤ 1000 → (∀ K, i_ShiftedMatch_l2 K a b sh N (m : Int) i = K ((m + dc a b sh i n : Nat) : Int)) ∧ ∀ K, s_l12Wrong_l1 K a b sh N (m : Int) i = K ((m + dc a b sh i n : Nat) : Int) := by
  intro n
  induction n with
  | zero =>
    intro N m i g1 g2 g3 g4
    obtain ⟨N, rfl⟩ := pos_fuel g3
    have hi : ¬ (i < 120) := by omega
    exact ⟨fun K => by simp [i_ShiftedMatch_l2, hi, dc], fun K => by simp [s_l12Wrong_l1, hi, dc]⟩
  | succ n ih =>
    intro N m i g1 g2 g3 g4
    obtain ⟨N, rfl⟩ := pos_fuel g3
    have hi : i < 120 := by omega
    have e1 : w64 (i - sh) = i - sh := w64_id (by omega) (by omega)
    have e2 : w64 (i + 1) = i + 1 := w64_id (by omega) (by omega)
    obtain ⟨a1, a2⟩ := At_eq a (i - sh) ha
    obtain ⟨b1, b2⟩ := At_eq b i hb
    obtain ⟨f1, f2⟩ := ih N (m + 1) (i + 1) (by omega) (by omega) (by omega) (by omega)
    obtain ⟨k1, k2⟩ := ih N m (i + 1) (by omega) (by omega) (by omega) (by omega)
    refine ⟨fun K => ?_, fun K => ?_⟩
    · simp only [i_ShiftedMatch_l2, hi, decide_true, cond_true, withK_eq, e1, a1, b1, Option.bind_some, e2, w64_nat m (by omega), f1, k1, dc]
      cases (ch a (i - sh) != ch b i) <;> simp <;> congr 1 <;> omega
    · simp only [s_l12Wrong_l1, hi, decide_true, cond_true, withK_eq, e1, a2, b2, Option.bind_some, e2, w64_nat m (by omega), f2, k2, dc]
      cases (ch a (i - sh) != ch b i) <;> simp <;> congr 1 <;> omega
theorem dif_eq (N : Nat) (a b : Str) (sh : Int) (ha : a.length ≤ 1000) (hb : b.length ≤ 1000) (h0 : -100 ≤ sh) (h1 : sh ≤ 100) (hN : 200 < N) : (∀ K, i_ShiftedMatch_l2 K a b sh N 0 (-60) = K (D a b sh : Nat)) ∧ s_l12Wrong N a b sh = some ((D a b sh : Nat) : Int) := by
  obtain ⟨g1, g2⟩ := dif_l a b sh ha hb h0 h1 180 N 0 (-60) (by omega) (by omega) (by omega) (by omega)
  simp only [Nat.zero_add] at g1 g2
  rw [show ((0 : Nat) : Int) = 0 from rfl] at g1 g2
  refine ⟨g1, ?_⟩
  unfold s_l12Wrong
  simp only [withK_eq]
  exact g2 _
theorem i_round (a b : Str) (most x s l best : Int) (N : Nat) (ha : a.length ≤ 1000) (hb : b.length ≤ 1000) (hm0 : 0 ≤ most) (hm : most ≤ 60) (hx0 : 0 ≤ x) (hx : x ≤ 2 * most) (hs : (x % 2 = 1 ∧ s = -((x + 1) / 2)) ∨ (x % 2 = 0 ∧ s = x / 2)) (hN : 200 < N) (K : Int → Int → Option (Int × Int × Int)) :
    i_ShiftedMatch_l1 K a b most (N + 1) best l x = bif (decide (l < 0) || decide (((D a b s : Nat) : Int) < l)) then i_ShiftedMatch_l1 K a b most N s (D a b s : Nat) (x + 1) else i_ShiftedMatch_l1 K a b most N best l (x + 1) := by
  have e1 : w64 (2 * most) = 2 * most := w64_id (by omega) (by omega)
  have e2 : w64 (2 * most + 1) = 2 * most + 1 := w64_id (by omega) (by omega)
  have e3 : w64 (x + 1) = x + 1 := w64_id (by omega) (by omega)
  have e4 : w64 (0 - (x + 1)) = -(x + 1) := by rw [w64_id (by omega) (by omega)]; omega
  have hlt : x < 2 * most + 1 := by omega
  have et : Int.tmod x 2 = x % 2 := Int.tmod_eq_emod_of_nonneg hx0
  obtain ⟨g1, _⟩ := dif_eq N a b s ha hb (by omega) (by omega) hN
  simp only [i_ShiftedMatch_l1, e1, e2, hlt, decide_true, cond_true, withK_eq, et, e3, e4]
  rcases hs with ⟨h1, h2⟩ | ⟨h1, h2⟩
  · have e5 : (x % 2 == 1) = true := by simp [h1]
    have e6 : w64 (Int.tdiv (-(x + 1)) 2) = s := by
      rw [Int.neg_tdiv, Int.tdiv_eq_ediv_of_nonneg (by omega), w64_id (by omega) (by omega), h2]
    simp only [e5, cond_true, e6, g1, orO_some, Option.bind_some]
  · have e5 : (x % 2 == 1) = false := by simp [h1]
    have e6 : w64 (Int.tdiv x 2) = s := by
      rw [Int.tdiv_eq_ediv_of_nonneg hx0, w64_id (by omega) (by omega), h2]
    simp only [e5, cond_false, e6, g1, orO_some, Option.bind_some]
def two (a b : Str) (k best l : Int) : Int × Int :=
  (fun p : Int × Int => bif decide (((D a b k : Nat) : Int) < p.2) then (k, ((D a b k : Nat) : Int)) else p) (bif decide (((D a b (-k) : Nat) : Int) < l) then (-k, ((D a b (-k) : Nat) : Int)) else (best, l))
theorem s_l2 (a b : Str) (k l best : Int) (M : Nat) (ha : a.length ≤ 1000) (hb : b.length ≤ 1000) (hk0 : 1 ≤ k) (hk : k ≤ 60) (hM : 250 < M) (K : Int → Int → Option (Int × Int × Int)) :
    s_ShiftedMatch_l2 K a b k (M + 3) best l (-1) = K (two a b k best l).1 (two a b k best l).2 := by
  have e2 : w64 (-1 * k) = -k := by rw [w64_id (by omega) (by omega)]; omega
  have e3 : w64 (1 * k) = k := by rw [w64_id (by omega) (by omega)]; omega
  have e4 : w64 (-1 + 2) = 1 := by rw [w64_id (by omega) (by omega)]; rfl
  have e5 : w64 (1 + 2) = 3 := by rw [w64_id (by omega) (by omega)]; rfl
  have c1 : decide ((-1 : Int) ≤ 1) = true := rfl
  have c2 : decide ((1 : Int) ≤ 1) = true := rfl
  have c3 : decide ((3 : Int) ≤ 1) = false := rfl
  have g1 := fun n (hn : 200 < n) => (dif_eq n a b (-k) ha hb (by omega) (by omega) hn).2
  have g2 := fun n (hn : 200 < n) => (dif_eq n a b k ha hb (by omega) (by omega) hn).2
  simp only [s_ShiftedMatch_l2, c1, withK_eq, e2, g1 (M + 2) (by omega), Option.bind_some, e4, c2, e3, g2 (M + 1) (by omega), e5, c3, cond_false, cond_true, two]
  cases decide (((D a b (-k) : Nat) : Int) < l)
  · simp only [cond_false]
    cases decide (((D a b k : Nat) : Int) < l) <;> rfl
  · simp only [cond_true]
    cases decide (((D a b k : Nat) : Int) < ((D a b (-k) : Nat) : Int)) <;> rfl
theorem s_round (a b : Str) (most k l best : Int) (N : Nat) (ha : a.length ≤ 1000) (hb : b.length ≤ 1000) (hm : most ≤ 60) (hk0 : 1 ≤ k) (hk : k ≤ most) (hN : 300 < N) (K : Int → Int → Option (Int × Int × Int)) :
    s_ShiftedMatch_l1 K a b most (N + 1) best l k = s_ShiftedMatch_l1 K a b most N (two a b k best l).1 (two a b k best l).2 (k + 1) := by
  have e1 : w64 (k + 1) = k + 1 := w64_id (by omega) (by omega)
  have g := fun K => s_l2 a b k l best (N - 3) ha hb hk0 (by omega) (by omega) K
  rw [show N - 3 + 3 = N by omega] at g
  simp only [s_ShiftedMatch_l1, hk, decide_true, cond_true, withK_eq, e1]
  rw [g]
theorem Shift_l (a b : Str) (m : Nat) (ha : a.length ≤ 1000) (hb : b.length ≤ 1000) (hm : m ≤ 60) : ∀ (n k : Nat), k + n = m + 1 → 1 ≤ k → ∀ (best : Int) (l : Nat), -(m : Int) ≤ best → best ≤ m →
    ∃ (p : Int) (q : Nat), q ≤ l ∧ -(m : Int) ≤ p ∧ p ≤ m ∧ (∀ N, 2 * n + 300 < N → i_ShiftedMatch_l1 (fun b l => some (b, l, 0)) a b (m : Int) N best (l : Int) (2 * (k : Int) - 1) = some (p, (q : Int), 0)) ∧
      ∀ N, n + 400 < N → s_ShiftedMatch_l1 (fun b l => some (b, l, 0)) a b (m : Int) N best (l : Int) (k : Int) = some (p, (q : Int), 0) := by
  intro n
  induction n with
  | zero =>
    intro k h1 h2 best l h3 h4
    refine ⟨best, l, Nat.le_refl _, h3, h4, fun N hN => ?_, fun N hN => ?_⟩
    · obtain ⟨N, rfl⟩ := pos_fuel (by omega : 0 < N)
      have e1 : w64 (2 * (m : Int)) = 2 * m := w64_id (by omega) (by omega)
      have e2 : w64 (2 * (m : Int) + 1) = 2 * m + 1 := w64_id (by omega) (by omega)
      have : ¬ (2 * (k : Int) - 1 < 2 * (m : Int) + 1) := by omega
      simp only [i_ShiftedMatch_l1, e1, e2, this, decide_false, cond_false]
    · obtain ⟨N, rfl⟩ := pos_fuel (by omega : 0 < N)
      have : ¬ ((k : Int) ≤ (m : Int)) := by omega
      simp only [s_ShiftedMatch_l1, this, decide_false, cond_false]
  | succ n ih =>
    intro k h1 h2 best l h3 h4
    -- the state after both shifts
    have st : ∃ (b' : Int) (l' : Nat), l' ≤ l ∧ -(m : Int) ≤ b' ∧ b' ≤ m ∧
        two a b k best l = (b', (l' : Int)) := by
      unfold two
      by_cases c1 : ((D a b (-(k : Int)) : Nat) : Int) < l
      · by_cases c2 : ((D a b (k : Int) : Nat) : Int) < ((D a b (-(k : Int)) : Nat) : Int)
        · exact ⟨k, D a b k, by omega, by omega, by omega, by simp [c1, c2]⟩
        · exact ⟨-k, D a b (-k), by omega, by omega, by omega, by simp [c1, c2]⟩
      · by_cases c2 : ((D a b (k : Int) : Nat) : Int) < l
        · exact ⟨k, D a b k, by omega, by omega, by omega, by simp [c1, c2]⟩
        · exact ⟨best, l, by omega, h3, h4, by simp [c1, c2]⟩
    obtain ⟨b', l', s1, s2, s3, s4⟩ := st
    obtain ⟨p, q, q1, q2, q3, q4, q5⟩ := ih (k + 1) (by omega) (by omega) b' l' s2 s3
    refine ⟨p, q, by omega, q2, q3, fun N hN => ?_, fun N hN => ?_⟩
    · obtain ⟨N, rfl⟩ : ∃ M, N = M + 2 := ⟨N - 2, by omega⟩
      have r1 := fun best (l : Int) => i_round a b m (2 * (k : Int) - 1) (-(k : Int)) l best (N + 1) ha hb (by omega) (by omega) (by omega) (by omega) (.inl ⟨by omega, by omega⟩) (by omega) (fun b l => some (b, l, 0))
      have r2 := fun best (l : Int) => i_round a b m (2 * (k : Int) - 1 + 1) (k : Int) l best N ha hb (by omega) (by omega) (by omega) (by omega) (.inr ⟨by omega, by omega⟩) (by omega) (fun b l => some (b, l, 0))
      have q4' := q4 N (by omega)
      have e : 2 * (((k + 1 : Nat)) : Int) - 1 = 2 * (k : Int) - 1 + 1 + 1 := by omega
      rw [e] at q4'
      rw [r1, r2, r2]
      have n0 : ¬ ((l : Int) < 0) := by omega
      have n1 : ¬ (((D a b (-(k : Int)) : Nat) : Int) < 0) := by omega
      simp only [n0, n1, decide_false, Bool.false_or]
      rw [← q4']
      unfold two at s4
      by_cases c1 : ((D a b (-(k : Int)) : Nat) : Int) < l
      · simp only [c1, decide_true, cond_true] at s4 ⊢
        by_cases c2 : ((D a b (k : Int) : Nat) : Int) < ((D a b (-(k : Int)) : Nat) : Int)
        · simp only [c2, decide_true, cond_true, Prod.mk.injEq] at s4 ⊢
          rw [← s4.1, ← s4.2]
        · simp only [c2, decide_false, cond_false, Prod.mk.injEq] at s4 ⊢
          rw [← s4.1, ← s4.2]
      · simp only [c1, decide_false, cond_false] at s4 ⊢
        by_cases c2 : ((D a b (k : Int) : Nat) : Int) < l
        · simp only [c2, decide_true, cond_true, Prod.mk.injEq] at s4 ⊢
          rw [← s4.1, ← s4.2]
        · simp only [c2, decide_false, cond_false, Prod.mk.injEq] at s4 ⊢
          rw [← s4.1, ← s4.2]
    · obtain ⟨N, rfl⟩ := pos_fuel (by omega : 0 < N)
      rw [s_round a b m k l best N ha hb (by omega) (by omega) (by omega) (by omega)]
      rw [s4]
      exact q5 N (by omega)
theorem Shift_eq (N : Nat) (a b : Str) (most : Int) (ha : a.length ≤ 1000) (hb : b.length ≤ 1000) (hN : 3000 < N) : ∃ p : Int × Int × Int, i_ShiftedMatch N a b most = some p ∧ s_ShiftedMatch N a b most = some p ∧ (p.2.2 = 0 → okT 60 a = true ∧ okT 60 b = true ∧ 0 ≤ most ∧ most ≤ 60 ∧ -most ≤ p.1 ∧ p.1 ≤ most ∧ p.2.1 ≤ ((wrl a b 0 60).length : Int)) := by
  obtain ⟨a1, a2⟩ := Text_eq N a 60 (by unfold LIM; omega) (by omega)
  obtain ⟨b1, b2⟩ := Text_eq N b 60 (by unfold LIM; omega) (by omega)
  unfold i_ShiftedMatch s_ShiftedMatch
  simp only [i_isCorrectLine, s_l12Line, a1, a2, b1, b2, Option.bind_some, orO_some, i_between_eq, s_l00In_eq]
  cases hA : okT 60 a
  · exact ⟨(0, 0, 2), rfl, rfl, fun h => by simp at h⟩
  · cases hB : okT 60 b
    · exact ⟨(0, 0, 2), rfl, rfl, fun h => by simp at h⟩
    · cases hM : inr most 0 60
      · exact ⟨(0, 0, 2), rfl, rfl, fun h => by simp at h⟩
      · obtain ⟨m0, m1⟩ := inr_iff.1 hM
        obtain ⟨m, rfl⟩ := Int.eq_ofNat_of_zero_le m0
        have la := (okT_iff.1 hA).1
        have lb := (okT_iff.1 hB).1
        have hD := (dif_eq N a b 0 ha hb (by omega) (by omega) (by omega)).2
        obtain ⟨p, q, q1, q2, q3, q4, q5⟩ := Shift_l a b m ha hb (by omega) m 1 (by omega) (by omega) 0 (D a b 0) (by omega) (by omega)
        obtain ⟨M, hM⟩ := pos_fuel (by omega : 0 < N)
        have r0 := i_round a b m 0 0 (-1) 0 M ha hb (by omega) (by omega) (by omega) (by omega) (.inr ⟨by omega, by omega⟩) (by omega) (fun b l => some (b, l, 0))
        have q4' := q4 M (by omega)
        have q5' := q5 N (by omega)
        rw [show (2 * ((1 : Nat) : Int) - 1) = 0 + 1 from by omega] at q4'
        rw [show ((1 : Nat) : Int) = 1 from rfl] at q5'
        have n0 : decide ((-1 : Int) < 0) = true := rfl
        rw [← hM, n0, Bool.true_or, cond_true, q4'] at r0
        simp only [Bool.not_true, Bool.or_self, cond_false, withK_eq, r0, hD, Option.bind_some, q5']
        refine ⟨(p, (q : Int), 0), rfl, rfl, fun _ => ⟨by simp, by simp, by omega, by omega, q2, q3, ?_⟩⟩
        rw [wrl_len]
        have := dc_whole a b (by omega) (by omega)
        unfold D at q1
        rw [this] at q1
        rw [show ((0 : Nat) : Int) = 0 from rfl]
        show (q : Int) ≤ _
        omega
end Go.Proofs.Ythmocnbnlpdggaa
