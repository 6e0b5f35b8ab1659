/-
  Plain lemmas on these functions. No conditions but those that each states.
-/
import Derived.Test.YtjnijhdhniemnaaFnArrangementsP6
namespace Go.Proofs.Ytjnijhdhniemnaa
set_option linter.unusedVariables false
set_option linter.unusedSimpArgs false
/-! Drawn places, and the law. -/
theorem df_of (l : List Int) (h : l.Nodup) : Df l := fun i j hi hj e => by
  have hp := List.pairwise_iff_getElem.1 h
  rcases Nat.lt_trichotomy i j with g | g | g
  · exact absurd e (hp i j hi hj g)
  · exact g
  · exact absurd e.symm (hp j i hj hi g)
theorem pl_l1 (code : List UInt8) (n : Nat) (hn : n ≤ 5) (kj : List Int → Option (List Int)) (hk : ∀ l, kj l = some l) : ∀ (q i N : Nat) (l : List Int) (a sd hi : Int), i + q = n → q < N → 0 ≤ a → a ≤ hi → hi + 2 * q ≤ 1000000 → l.length = i → l.Nodup → (∀ x ∈ l, 0 ≤ x ∧ x < i) → ∃ l', s_A2Places_l1 kj code (n : Int) N l a sd (i : Int) = some l' ∧ l'.length = n ∧ l'.Nodup ∧ ∀ x ∈ l', 0 ≤ x ∧ x < n := by
  intro q
  induction q with
  | zero =>
    intro i N l a sd hi hi' hN h0 h1 h2 h3 h4 h5
    obtain ⟨N, rfl⟩ := pos_fuel hN
    have hz : ¬ (i : Int) < (n : Int) := by omega
    simp only [s_A2Places_l1, hz, decide_false, cond_false, hk]
    have : i = n := by omega
    subst this
    exact ⟨l, rfl, h3, h4, h5⟩
  | succ q ih =>
    intro i N l a sd hi hi' hN h0 h1 h2 h3 h4 h5
    obtain ⟨N, rfl⟩ := pos_fuel hN
    have hz : (i : Int) < (n : Int) := by omega
    simp only [s_A2Places_l1, hz, decide_true, cond_true]
    rw [w64_id (x := (l.length : Int) + 1) (by omega) (by omega)]
    obtain ⟨v, e, g1, g2, g3⟩ := pickA (code := code) (hi := hi) (s := L00Src.mk code a sd) ((l.length : Int) + 1) ⟨rfl, h0, h1⟩ (by omega)
    have g4 := g3 (by omega)
    obtain ⟨r, hr⟩ := Int.eq_ofNat_of_zero_le g2
    have hrl : r ≤ l.length := by omega
    have hs1 : sub l 0 (r : Int) = some (l.take r) := by rw [sub_some l 0 r (by omega) (by omega) (by omega)]; simp
    have hs2 : sub l (r : Int) (l.length : Int) = some (l.drop r) := by
      rw [sub_some l r _ (by omega) (by omega) (by omega)]
      have e1 : ((r : Int)).toNat = r := by omega
      have e2 : ((l.length : Int)).toNat = l.length := by omega
      rw [e1, e2, List.take_of_length_le (by rw [List.length_drop]; omega)]
    have hlt : (l.take r).length + (l.drop r).length = l.length := by rw [List.length_take, List.length_drop]; omega
    rw [e, Option.bind_some, hr, hs1, Option.bind_some]
    unfold s_l00Own
    rw [app_some _ _ (by unfold LIM; simp; omega), Option.bind_some, Option.bind_some, List.nil_append, app_some _ _ (by unfold LIM; simp; omega), Option.bind_some, hs2, Option.bind_some, app_some _ _ (by unfold LIM; simp; omega), Option.bind_some, w64_nat i (by omega)]
    have hperm : (l.take r ++ [(i : Int)] ++ l.drop r).Perm ((i : Int) :: l) := by
      have := List.perm_middle (a := (i : Int)) (l₁ := l.take r) (l₂ := l.drop r)
      rw [List.take_append_drop] at this
      simpa using this
    refine ih (i + 1) N _ v.2.at_ v.2.seed (hi + 2) (by omega) (by omega) g1.2.1 g1.2.2 (by omega) ?_ ?_ ?_
    · rw [hperm.length_eq]; simp; omega
    · rw [hperm.nodup_iff, List.nodup_cons]
      exact ⟨fun hm => by have := h5 _ hm; omega, h4⟩
    · intro x hx
      rcases List.mem_cons.1 (hperm.mem_iff.1 hx) with rfl | hx
      · omega
      · have := h5 x hx; omega
theorem places_ok (code : List UInt8) (n : Nat) (hn : n ≤ 5) (N : Nat) (hN : 20 < N) : ∃ l, s_A2Places N code (n : Int) = some l ∧ l.length = n ∧ l.Nodup ∧ ∀ x ∈ l, 0 ≤ x ∧ x < n := by
  unfold s_A2Places
  rw [fromA]
  simp only [Option.bind_some, withK_eq]
  exact pl_l1 code n hn _ (fun _ => rfl) n 0 N [] 0 0 0 (by omega) (by omega) (Int.le_refl _) (Int.le_refl _) (by omega) rfl List.nodup_nil (fun x hx => by cases hx)
theorem law_FnArrangements (code more : List UInt8) (_ : wfL wfByte code) (_ : wfL wfByte more) : ∃ N, w_FnArrangements N code more = some true := by
  refine ⟨20000, ?_⟩
  obtain ⟨N, hN⟩ : ∃ N, N = 20000 := ⟨_, rfl⟩
  rw [← hN]
  unfold w_FnArrangements
  have hw : ∃ q, w_a2Long code more = some q := by
    unfold w_a2Long
    simp only [orO_some, Option.bind_some]
    exact ⟨_, rfl⟩
  obtain ⟨q, hq⟩ := hw
  rw [hq, Option.bind_some]
  cases q
  case true => rfl
  rw [cond_false]
  obtain ⟨b, e1, hb⟩ := basket_ok code
  obtain ⟨n, P, e2, hP⟩ := pairs_ok more N (by omega)
  have hP1 := hP.1
  have hP2 := hP.2.1
  have hP3 := hP.2.2.1
  obtain ⟨p, e3, hl, hnd, hin⟩ := places_ok code n hP3 N (by omega)
  have hp : AG b n p := ⟨hl, fun x hx => by have := hin x hx; have := hb.1; omega, df_of p hnd⟩
  rw [e1, Option.bind_some, e2, Option.bind_some, hP1, e3, Option.bind_some, ac_ok b hb n P hP p hp N (by omega), Option.bind_some, ab_ok b hb n P hP N (by omega), Option.bind_some]
  obtain ⟨m1, m2⟩ := mir_ok b hb n ⟨hP2, hP3⟩ p hp N (by omega)
  rw [m1, Option.bind_some, ac_ok b hb n P hP _ m2 N (by omega), Option.bind_some, tot_mir]
  obtain ⟨_, c0, c1⟩ := cost_ok b hb n P hP p hp.1 hp.2.1 N (by omega)
  obtain ⟨p', a1, a2, ⟨f', s', a3⟩, a4, a5, a6⟩ := imp_l1 b hb n P hP 6000 p hp c1
  have hI : i_ImproveArrange N b P p = some (p', 0) := by
    unfold i_ImproveArrange
    rw [code_ok b hb n P hP p hp N (by omega), Option.bind_some]
    simp only [bne_self_eq_false, cond_false]
    rw [app_some _ _ (by unfold LIM; simp; omega), Option.bind_some, List.nil_append]
    exact a4 N (by omega)
  have hBS : ∀ (p0 : List Int), AG b n p0 → ∀ f s fd, i_Basket_bestSwap N b P p0 = some (f, s, fd) → i_BestSwap N b P p0 = (bif !fd then some (0, 0, 3) else some (f, s, 0)) := fun p0 h0 f s fd h => by
    unfold i_BestSwap
    rw [code_ok b hb n P hP p0 h0 N (by omega), Option.bind_some]
    simp only [bne_self_eq_false, cond_false]
    rw [h, Option.bind_some]
  rw [hI, Option.bind_some, ac_ok b hb n P hP p' a1 N (by omega), Option.bind_some, hBS p' a1 f' s' false (a3 N (by omega))]
  obtain ⟨b0, b1⟩ := bT_le b hb n p hl (df_of p hnd) P 0 hP.2.2.2 (by omega)
  rw [List.drop_zero] at b1
  have d1 : decide (bT b 0 P > tot b P p) = false := decide_eq_false (by unfold tot; omega)
  have d2 : decide (tot b P p' > tot b P p) = false := decide_eq_false (by omega)
  obtain ⟨l, f, s, fd, h1, h2⟩ := bs_ok b hb n P hP p hp
  simp only [Bool.not_false, cond_true, Option.bind_some, bne_self_eq_false, orO_some, Bool.or_self, d1, d2, cond_false]
  rw [hBS p hp f s fd (h2 N (by omega))]
  rcases h1 with ⟨rfl, _⟩ | ⟨rfl, i, k, rfl, rfl, hik, hk, hl', hlt⟩
  · have := a5 f s (h2 300 (by omega))
    subst this
    have h30 : ((3 : Int) != 0) = true := rfl
    simp only [Bool.not_false, cond_true, Option.bind_some, h30, beq_self_eq_true, andO_some, Bool.and_self]
  · have hi : i < n := by omega
    have hk' : k < n := by omega
    have h6 := a6 i k (h2 300 (by omega))
    have hag := sw_ag hp i k hi hk'
    have d3 : decide ((i : Int) < 0) = false := decide_eq_false (by omega)
    have d4 : decide ((k : Int) ≤ (i : Int)) = false := decide_eq_false (by omega)
    have d5 : decide ((k : Int) ≥ (p.length : Int)) = false := decide_eq_false (by omega)
    have d6 : decide (tot b P (sw p i k) < tot b P p) = true := decide_eq_true (by omega)
    have d7 : decide (tot b P p' ≤ tot b P (sw p i k)) = true := decide_eq_true h6
    have hss := sw_sw p i k (by omega) hk
    simp only [Bool.not_true, cond_false, Option.bind_some, bne_self_eq_false, orO_some, Bool.or_self, d3, d4, d5]
    rw [sl_ok b hb n ⟨hP2, hP3⟩ p hp i k hi hk' N (by omega), Option.bind_some]
    simp only []
    rw [ac_ok b hb n P hP _ hag N (by omega), Option.bind_some, sl_ok b hb n ⟨hP2, hP3⟩ _ hag i k hi hk' N (by omega), Option.bind_some, hss, same_ok p (by omega) N (by omega)]
    simp only [beq_self_eq_true, andO_some, Option.bind_some, d6, d7, Bool.and_self]
end Go.Proofs.Ytjnijhdhniemnaa
