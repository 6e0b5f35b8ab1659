/-
  Plain lemmas on these functions. No conditions but those that each states.
-/
import Derived.Test.YthpdpfagfkopnaaFnTopP12
namespace Go.Proofs.Ythpdpfagfkopnaa
set_option linter.unusedVariables false
set_option linter.unusedSimpArgs false
/-! The straight comparison, and the law. -/
def sd : Str → Str → Nat
  | [], b => b.length
  | _ :: a, [] => a.length + 1
  | x :: a, y :: b => (if x = y then 0 else 1) + sd a b
theorem lev_sd : ∀ a b : Str, lev a b ≤ sd a b
  | [], b => by
    have := lev_up [] b
    simp only [sd]
    simpa using this
  | x :: a, [] => by
    have := lev_up (x :: a) []
    simp only [sd]
    simpa using this
  | x :: a, y :: b => by
    have ih := lev_sd a b
    simp only [sd]
    by_cases h : x = y
    · subst h
      rw [if_pos rfl]
      have := lev_same x a b
      omega
    · rw [if_neg h]
      have := lev_sub x y h a b
      omega
theorem sd_le : ∀ a b : Str, sd a b ≤ a.length + b.length
  | [], b => by simp [sd]
  | x :: a, [] => by simp [sd]
  | x :: a, y :: b => by
    have := sd_le a b
    simp only [sd, List.length_cons]
    split <;> omega
theorem sd_nil (a : Str) : sd a [] = a.length := by cases a <;> rfl
theorem sr_l1 (a b : Str) (ha : a.length ≤ 60) (hb : b.length ≤ 60) (kj : Int → Option Int) : ∀ (q i N n : Nat), a.length ≤ i + q → b.length ≤ i + q → i ≤ 100 → q < N → n ≤ i → w_a2Straight_l1 kj a b N (n : Int) (i : Int) = kj ((n + sd (a.drop i) (b.drop i) : Nat) : Int) := by
  intro q
  induction q with
  | zero =>
    intro i N n h1 h2 hi hN hn
    obtain ⟨N, rfl⟩ := pos_fuel hN
    rw [w_a2Straight_l1, decide_eq_false (by omega : ¬ (i : Int) < (a.length : Int)), decide_eq_false (by omega : ¬ (i : Int) < (b.length : Int)), orO_false, Option.bind_some, cond_false, List.drop_eq_nil_of_le (by omega), List.drop_eq_nil_of_le (by omega)]
    rfl
  | succ q ih =>
    intro i N n h1 h2 hi hN hn
    obtain ⟨N, rfl⟩ := pos_fuel hN
    rw [w_a2Straight_l1, orO_some, Option.bind_some]
    by_cases hA : i < a.length
    · rw [decide_eq_true (by omega : (i : Int) < (a.length : Int)), Bool.true_or, cond_true]
      simp only [withK_n]
      rw [decide_eq_false (by omega : ¬ (i : Int) ≥ (a.length : Int)), orO_false, Option.bind_some, w64_nat i (by omega), w64_nat n (by omega)]
      by_cases hB : i < b.length
      · rw [decide_eq_false (by omega : ¬ (i : Int) ≥ (b.length : Int)), orO_false, idx_lt a i hA, Option.bind_some, idx_lt b i hB, Option.bind_some, Option.bind_some, List.drop_eq_getElem_cons hA, List.drop_eq_getElem_cons hB, sd]
        by_cases h : a[i] = b[i]
        · rw [if_pos h, h, bne_self_eq_false', cond_false, ih (i + 1) N n (by omega) (by omega) (by omega) (by omega) (by omega)]
          congr 2; omega
        · rw [if_neg h, bne_iff_ne.2 h, cond_true, ih (i + 1) N (n + 1) (by omega) (by omega) (by omega) (by omega) (by omega)]
          congr 2; omega
      · rw [decide_eq_true (by omega : (i : Int) ≥ (b.length : Int)), orO_true, Option.bind_some, cond_true, ih (i + 1) N (n + 1) (by omega) (by omega) (by omega) (by omega) (by omega)]
        rw [List.drop_eq_nil_of_le (by omega : b.length ≤ i), List.drop_eq_nil_of_le (by omega : b.length ≤ i + 1), sd_nil, sd_nil, List.length_drop, List.length_drop]
        congr 2; omega
    · rw [decide_eq_false (by omega : ¬ (i : Int) < (a.length : Int)), Bool.false_or]
      by_cases hB : i < b.length
      · rw [decide_eq_true (by omega : (i : Int) < (b.length : Int)), cond_true]
        simp only [withK_n]
        rw [decide_eq_true (by omega : (i : Int) ≥ (a.length : Int)), orO_true, Option.bind_some, orO_true, Option.bind_some, cond_true, w64_nat i (by omega), w64_nat n (by omega), ih (i + 1) N (n + 1) (by omega) (by omega) (by omega) (by omega) (by omega)]
        rw [List.drop_eq_nil_of_le (by omega : a.length ≤ i), List.drop_eq_nil_of_le (by omega : a.length ≤ i + 1), sd, sd, List.length_drop, List.length_drop]
        congr 2; omega
      · rw [decide_eq_false (by omega : ¬ (i : Int) < (b.length : Int)), cond_false, List.drop_eq_nil_of_le (by omega), List.drop_eq_nil_of_le (by omega)]
        rfl
theorem sr_ok (a b : Str) (ha : a.length ≤ 60) (hb : b.length ≤ 60) (N : Nat) (hN : 200 < N) : w_a2Straight N a b = some (sd a b : Int) := by
  unfold w_a2Straight
  rw [withK_n]
  have := sr_l1 a b ha hb (fun n => some n) (a.length + b.length) 0 N 0 (by omega) (by omega) (by omega) (by omega) (Nat.le_refl _)
  rw [show ((0 : Nat) : Int) = 0 from rfl, List.drop_zero, List.drop_zero, Nat.zero_add] at this
  exact this
theorem two_ok (l : List Int) (hs : VS l) (hi : ∀ i, ∀ h : i + 1 < l.length, l[i] < l[i + 1]) : (2 < l.length → Ch 2 (l.take 2)) ∧ (l.length ≤ 2 → Ch (l.length : Int) l) := by
  match l, hs, hi with
  | [], _, _ => exact ⟨fun h => by simp at h, fun _ => .inl ⟨rfl, rfl⟩⟩
  | [x], hs, _ =>
    have h1 := hs.2 0 (by simp)
    simp only [List.getElem_cons_zero] at h1
    refine ⟨fun h => by simp at h, fun _ => .inr (.inl ⟨rfl, x.toNat, by omega, by omega, ?_⟩)⟩
    rw [Int.toNat_of_nonneg (by omega)]
  | x :: y :: r, hs, hi =>
    have h1 := hs.2 0 (by simp)
    have h2 := hs.2 1 (by simp)
    have h3 := hi 0 (by simp)
    simp only [List.getElem_cons_zero, List.getElem_cons_succ] at h1 h2 h3
    have key : Ch 2 [x, y] := .inr (.inr ⟨rfl, x.toNat, y.toNat, by omega, by omega, by omega, by rw [Int.toNat_of_nonneg (by omega), Int.toNat_of_nonneg (by omega)]⟩)
    refine ⟨fun _ => key, fun h => ?_⟩
    have hr : r = [] := List.length_eq_zero_iff.1 (by simp only [List.length_cons] at h; omega)
    subst hr
    exact key
theorem isal_ok (a b : Str) (ha : TX a) (hb : TX b) (N : Nat) (hN : 400 < N) : i_IsAlignment N a b (alg a b) = some (true, 0) := by
  obtain ⟨s1, s2, s3⟩ := alg_spec a b
  have ha1 := ha.1
  have hb1 := hb.1
  unfold i_IsAlignment
  rw [tx_ok a ha N (by omega), Option.bind_some, tx_ok b hb N (by omega), Bool.not_true, orO_false, Option.bind_some, Bool.not_true, Option.bind_some, cond_false, steps_ok _ s1.mem (by omega) N (by omega), Option.bind_some, Bool.not_true, cond_false, aligns_ok a b _ ha1 hb1 (by omega) s1 N (by omega), Option.bind_some]
theorem alt_ok (a b : Str) (ha : TX a) (hb : TX b) (N : Nat) (hN : 400 < N) : i_AlignTexts N a b = some (alg a b, 0) := by
  have ha1 := ha.1
  have hb1 := hb.1
  unfold i_AlignTexts
  rw [tx_ok a ha N (by omega), Option.bind_some, tx_ok b hb N (by omega), Bool.not_true, orO_false, Option.bind_some, Bool.not_true, Option.bind_some, cond_false, al_ok a b ha1 hb1 N (by omega), Option.bind_some]
theorem law_FnTop (code more : List UInt8) (_ : wfL wfByte code) (_ : wfL wfByte more) : ∃ N, w_FnTop N code more = some true := by
  refine ⟨20000, ?_⟩
  obtain ⟨N, hN⟩ : ∃ N, N = 20000 := ⟨_, rfl⟩
  rw [← hN]
  unfold w_FnTop
  have hw : ∃ q, w_a2Long code more = some q := by
    unfold w_a2Long
    simp only [orO_some, Option.bind_some]
    exact ⟨_, rfl⟩
  obtain ⟨q, hq⟩ := hw
  rw [hq, Option.bind_some]
  cases q
  case true => rfl
  rw [cond_false]
  obtain ⟨b, e1, hb⟩ := basket_ok code
  obtain ⟨n, P, e2, hP⟩ := pairs_ok more N (by omega)
  have hP1 := hP.1
  have hP3 := hP.2.2.1
  obtain ⟨best, e3, hbest, hleast⟩ := ba_ok b hb n P hP N (by omega)
  obtain ⟨p, e4, hp⟩ := placesp_ok code n hP3 N (by omega)
  have hpa := (prm hb hP3 hp).1
  have hz0 : ((0 : Int) != 0) = false := rfl
  have hd1 : decide (tot b P p < tot b P best) = false := decide_eq_false (by have := hleast p hp; omega)
  rw [e1, Option.bind_some, e2, Option.bind_some, e3, Option.bind_some]
  dsimp only
  rw [ac_ok b hb n P hP best hbest N (by omega), Option.bind_some, hP1, e4, Option.bind_some, ac_ok b hb n P hP p hpa N (by omega), Option.bind_some]
  dsimp only
  rw [hz0, bne_self_eq_false', hd1]
  simp only [orO_false, Option.bind_some, cond_false]
  obtain ⟨row, e5, hrow⟩ := A2Row_ok N more (by omega)
  obtain ⟨stops, e6, hs, hri⟩ := A2Stops_ok N code (by omega)
  rw [e5, Option.bind_some, e6, Option.bind_some]
  have fin : ∀ (m : Int) (c : List Int), 0 ≤ m → m ≤ 2 → Ch m c → ((i_RowPlan N c row).bind fun r53 =>
      (i_RunPlan N c r53.1).bind fun r55 =>
      (i_PlanMoves N r53.1).bind fun r57 =>
      (i_PageMoves N c [row]).bind fun r60 =>
      (i_BestStops N [row] (List.length c : Int)).bind fun r63 =>
      (orO (r53.2 != 0) (some (r55.2 != 0))).bind fun t66 =>
      (orO t66 (some (r55.1 != row))).bind fun t69 =>
      (orO t69 (some (r57.2 != 0))).bind fun t72 =>
      (orO t72 (some (r60.2 != 0))).bind fun t75 =>
      (orO t75 (some (r60.1 != r57.1))).bind fun t78 =>
      (orO t78 (some (r63.2.2 != 0))).bind fun t81 =>
      (orO t81 (some (decide (r63.2.1 > r57.1)))).bind fun t84 =>
      bif t84 then
      some false
      else
      (s_A2Typed N more).bind fun r88 =>
      (i_AlignTexts N r88.1 r88.2).bind fun r90 =>
      (i_IsAlignment N r88.1 r88.2 r90.1).bind fun r92 =>
      (i_LeastErrors N r88.1 r88.2).bind fun r94 =>
      (i_ErrorsIn N r90.1).bind fun r96 =>
      (andO (r90.2 == 0) (some (r92.2 == 0))).bind fun t99 =>
      (andO t99 (some r92.1)).bind fun t102 =>
      (andO t102 (some (r94.2 == 0))).bind fun t105 =>
      (andO t105 (some (r96.2 == 0))).bind fun t108 =>
      (andO t108 (some ((List.length r96.1 : Int) == 4))).bind fun t111 =>
      (andO t111 ((w_a2Sum N r96.1).bind fun r117 =>
      some (r117 == r94.1))).bind fun t114 =>
      (andO t114 ((w_a2Straight N r88.1 r88.2).bind fun r122 =>
      some (decide (r94.1 ≤ r122)))).bind fun t119 =>
      some t119) = some true := fun m c m0 m2 hc => by
    obtain ⟨vs, inc, hlen⟩ := ch_vs hc
    obtain ⟨l, k1, k2, k3, k4, k5⟩ := RowPlan_ok c vs inc row hrow
    obtain ⟨r1, r2, r3, r4⟩ := k1 N (by omega)
    have hmv : Mv1 row c (total l) := pm1 c row (flat l) (total l) (by omega) fun M hM => (k1 M hM).1
    have hpg : i_PageMoves N c [row] = some ((total l : Int), 0) := by
      unfold i_PageMoves
      rw [validStops_ok N c vs inc (by omega), Option.bind_some, Bool.not_true, cond_false, rowsCode1_ok N row hrow.2.1 (by omega), Option.bind_some, hz0, cond_false, hmv.2 N (by omega), Option.bind_some]
    obtain ⟨s, v, b1, b2, b3, b4⟩ := best1_ok N (by omega) row hrow m m0 m2
    have hv := b4 c (total l) hc hmv
    rw [r2, Option.bind_some]
    dsimp only
    rw [r3, Option.bind_some, r4, Option.bind_some, hpg, Option.bind_some, hlen, b1, Option.bind_some]
    dsimp only
    have hd2 : decide ((v : Int) > (total l : Int)) = false := decide_eq_false (by omega)
    have hrr : (row != row) = false := by simp
    have htt : ((total l : Int) != (total l : Int)) = false := by simp
    rw [hz0, hrr, htt, hd2]
    simp only [orO_false, Option.bind_some, cond_false]
    obtain ⟨⟨x, y⟩, f1, g1, g2, g3, g4⟩ := typed_ok more N (by omega)
    simp only at g1 g2 g3 g4
    have hx : TX x := ⟨by omega, g2⟩
    have hy : TX y := ⟨by omega, g4⟩
    obtain ⟨s1, s2, s3⟩ := alg_spec x y
    have her := er_cnt (alg x y) s1.mem
    rw [s2] at her
    have c43 := cnt_le 43 (alg x y)
    have c45 := cnt_le 45 (alg x y)
    have c120 := cnt_le 120 (alg x y)
    have c126 := cnt_le 126 (alg x y)
    have hsum2 : w_a2Sum N [(cnt 43 (alg x y) : Int), (cnt 45 (alg x y) : Int), (cnt 120 (alg x y) : Int), (cnt 126 (alg x y) : Int)] = some (lev x y) := by
      rw [as_ok _ (by simp) (fun v hv => by
        simp only [List.mem_cons, List.not_mem_nil, or_false] at hv
        omega) N (by omega), her]
      simp only [isum]
      congr 1; omega
    have hst := lev_sd x y
    rw [f1, Option.bind_some]
    dsimp only
    rw [alt_ok x y hx hy N (by omega), Option.bind_some]
    dsimp only
    rw [isal_ok x y hx hy N (by omega), Option.bind_some, le_ok x y hx hy N (by omega), Option.bind_some, ei_ok _ s1.mem (by omega) N (by omega), Option.bind_some]
    dsimp only
    rw [hsum2, sr_ok x y (by omega) (by omega) N (by omega)]
    have hll : (((([(cnt 43 (alg x y) : Int), (cnt 45 (alg x y) : Int), (cnt 120 (alg x y) : Int), (cnt 126 (alg x y) : Int)] : List Int).length : Nat) : Int) == 4) = true := rfl
    have hz1 : ((0 : Int) == 0) = true := rfl
    simp only [hz1, hll, andO_true, Option.bind_some, beq_self_eq_true]
    rw [decide_eq_true hst]
  rw [withK_n]
  have ht := two_ok stops hs hri
  by_cases h2 : 2 < stops.length
  · rw [decide_eq_true (by omega), cond_true, sub_some stops 0 2 (by omega) (by omega) (by omega), Option.bind_some]
    exact fin 2 _ (by omega) (by omega) (ht.1 h2)
  · rw [decide_eq_false (by omega), cond_false]
    exact fin _ _ (by omega) (by omega) (ht.2 (by omega))
end Go.Proofs.Ythpdpfagfkopnaa
