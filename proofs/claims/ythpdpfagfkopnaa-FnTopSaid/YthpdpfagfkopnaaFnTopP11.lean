/-
  Plain lemmas on these functions. No conditions but those that each states.
-/
import Derived.Test.YthpdpfagfkopnaaFnTopP10
namespace Go.Proofs.Ythpdpfagfkopnaa
set_option linter.unusedVariables false
set_option linter.unusedSimpArgs false
/-! The best arrangement on the first bars. -/
theorem prm {b : Basket} (hb : BG b) {n : Nat} (hn : n ≤ 5) {l : List Int} (h : l.Perm (rng n)) : AG b n l ∧ Dg 5 l := by
  have h7 := hb.1
  have hm : ∀ x ∈ l, 0 ≤ x ∧ x < n := fun x hx => (rng_mem n x).1 (h.mem_iff.1 hx)
  refine ⟨⟨by rw [h.length_eq, rng_len], fun x hx => ?_, df_of l (h.nodup_iff.2 (rng_nodup n))⟩, fun x hx => ?_⟩
  · have := hm x hx; omega
  · have := hm x hx; omega
theorem ba_l1 (P : List (List Int)) (hP : P.length ≤ 100) (kj : List Int → Option (List Int × Int × Int)) : ∀ (q x N : Nat), x + q = P.length → q < N → i_BestArrange_l1 kj P N (rng x) (x : Int) = kj (rng P.length) := by
  intro q
  induction q with
  | zero =>
    intro x N hx hN
    obtain ⟨N, rfl⟩ := pos_fuel hN
    rw [i_BestArrange_l1, decide_eq_false (by omega : ¬ (x : Int) < (P.length : Int)), cond_false, show x = P.length by omega]
  | succ q ih =>
    intro x N hx hN
    obtain ⟨N, rfl⟩ := pos_fuel hN
    rw [i_BestArrange_l1, decide_eq_true (by omega : (x : Int) < (P.length : Int)), cond_true, app_some _ _ (by rw [rng_len]; unfold LIM; simp; omega), Option.bind_some, w64_nat x (by omega), ← rng_succ]
    exact ih (x + 1) N (by omega) (by omega)
theorem ba_l2 (b : Basket) (hb : BG b) (n : Nat) (P : List (List Int)) (hP : PG n P) (kj : List Int → Int → Option (List Int × Int × Int)) : ∀ (d N : Nat) (l best : List Int), l.Perm (rng n) → 5 ^ n - vl 5 l ≤ d → d + 400 < N → best.Perm (rng n) → (∀ m : List Int, m.Perm (rng n) → lxle m l → tot b P best ≤ tot b P m) →
    ∃ best', i_BestArrange_l2 kj b P N best l (tot b P best) = kj best' (tot b P best') ∧ best'.Perm (rng n) ∧ ∀ m : List Int, m.Perm (rng n) → tot b P best' ≤ tot b P m := by
  have hn2 := hP.2.1
  have hn5 := hP.2.2.1
  intro d
  induction d with
  | zero =>
    intro N l best hl hd
    have h1 := (prm hb hn5 hl).2
    have h2 := vl_lt 5 l h1
    have h3 := (prm hb hn5 hl).1.1
    rw [h3] at h2
    omega
  | succ d ih =>
    intro N l best hl hd hN hbest hm
    obtain ⟨N, rfl⟩ := pos_fuel (show 0 < N by omega)
    obtain ⟨hag, hdg⟩ := prm hb hn5 hl
    have hll := hag.1
    rw [i_BestArrange_l2]
    rcases np_next 5 l hdg (by omega) (by omega) N (by omega) with ⟨n1, n2⟩ | ⟨l', n1, n2, n3, n4⟩
    · rw [n1, Option.bind_some]
      exact ⟨best, rfl, hbest, fun m h => hm m h (n2 m (h.trans hl.symm))⟩
    · rw [n1, Option.bind_some]
      have hl' := n2.trans hl
      obtain ⟨hag', _⟩ := prm hb hn5 hl'
      have hc := (cost_ok b hb n P hP l' hag'.1 hag'.2.1 N (by omega)).1
      have hstep : ∀ m : List Int, m.Perm (rng n) → lxle m l' → m = l' ∨ tot b P best ≤ tot b P m := fun m g1 g2 => by
        rcases n4 m (g1.trans hl.symm) with g4 | g4
        · exact .inr (hm m g1 g4)
        · exact .inl (lx_antisymm m l' g2 g4)
      show ∃ best', (bif true then (i_Basket_cost N b P l').bind _ else _) = _ ∧ _
      rw [cond_true, hc, Option.bind_some]
      by_cases hlt : tot b P l' < tot b P best
      · rw [decide_eq_true hlt, cond_true, app_some _ _ (by unfold LIM; simp; have := hag'.1; omega), Option.bind_some, List.nil_append]
        refine ih N l' l' hl' (by omega) (by omega) hl' fun m g1 g2 => ?_
        rcases hstep m g1 g2 with rfl | g
        · exact Int.le_refl _
        · omega
      · rw [decide_eq_false hlt, cond_false]
        refine ih N l' best hl' (by omega) (by omega) hbest fun m g1 g2 => ?_
        rcases hstep m g1 g2 with rfl | g
        · omega
        · exact g
theorem ba_ok (b : Basket) (hb : BG b) (n : Nat) (P : List (List Int)) (hP : PG n P) (N : Nat) (hN : 5000 < N) : ∃ best, i_BestArrange N b P = some (best, tot b P best, 0) ∧ AG b n best ∧ ∀ m : List Int, m.Perm (rng n) → tot b P best ≤ tot b P m := by
  have hn2 := hP.2.1
  have hn5 := hP.2.2.1
  have hPl := hP.1
  have h7 := hb.1
  obtain ⟨hag, hdg⟩ := prm hb hn5 (List.Perm.refl (rng n))
  have h5 : 5 ^ n ≤ 5 ^ 5 := Nat.pow_le_pow_right (by omega) hn5
  have h55 : 5 ^ 5 = 3125 := rfl
  obtain ⟨best, e, h1, h2⟩ := ba_l2 b hb n P hP (fun l34 least36 => some (l34, least36, (0 : Int))) 3200 N (rng n) (rng n) (List.Perm.refl _) (by omega) (by omega) (List.Perm.refl _) fun m g1 g2 => by
    have g3 := asc_min (rng n) m ((rng_pw n).imp fun h => by omega) g1
    rw [lx_antisymm m (rng n) g2 g3]
    exact Int.le_refl _
  refine ⟨best, ?_, (prm hb hn5 h1).1, h2⟩
  have l1 := ba_l1 P (by omega) (fun l16 => (app [] l16).bind fun l29 => (i_Basket_cost N b P l16).bind fun r32 => withK (fun (l34 : List Int) (least36 : Int) => some (l34, least36, (0 : Int))) fun (kj37 : List Int → Int → Option (List Int × Int × Int)) => i_BestArrange_l2 kj37 b P N l29 l16 r32) P.length 0 N (by omega) (by omega)
  rw [show ((0 : Nat) : Int) = 0 from rfl, show rng 0 = [] from rfl] at l1
  unfold i_BestArrange
  rw [vb_ok b hb, Option.bind_some, vp_ok n P hP N (by omega), Bool.not_true, orO_false, Option.bind_some, Option.bind_some, Bool.not_true, cond_false, decide_eq_false (by omega), cond_false]
  refine (l1 : _ = _).trans ?_
  rw [hPl, app_some _ _ (by rw [rng_len]; unfold LIM; simp; omega), Option.bind_some, List.nil_append, (cost_ok b hb n P hP (rng n) hag.1 hag.2.1 N (by omega)).1, Option.bind_some]
  exact e
theorem plp_l1 (code : List UInt8) (n : Nat) (hn : n ≤ 5) (kj : List Int → Option (List Int)) (hk : ∀ l, kj l = some l) : ∀ (q i N : Nat) (l : List Int) (a sd hi : Int), i + q = n → q < N → 0 ≤ a → a ≤ hi → hi + 2 * q ≤ 1000000 → l.Perm (rng i) → ∃ l', s_A2Places_l1 kj code (n : Int) N l a sd (i : Int) = some l' ∧ l'.Perm (rng n) := by
  intro q
  induction q with
  | zero =>
    intro i N l a sd hi hi' hN h0 h1 h2 h3
    obtain ⟨N, rfl⟩ := pos_fuel hN
    have hz : ¬ (i : Int) < (n : Int) := by omega
    simp only [s_A2Places_l1, hz, decide_false, cond_false, hk]
    have : i = n := by omega
    subst this
    exact ⟨l, rfl, h3⟩
  | succ q ih =>
    intro i N l a sd hi hi' hN h0 h1 h2 h3
    obtain ⟨N, rfl⟩ := pos_fuel hN
    have hz : (i : Int) < (n : Int) := by omega
    have hil : l.length = i := by rw [h3.length_eq, rng_len]
    simp only [s_A2Places_l1, hz, decide_true, cond_true]
    rw [w64_id (x := (l.length : Int) + 1) (by omega) (by omega)]
    obtain ⟨v, e, g1, g2, g3⟩ := pickA (code := code) (hi := hi) (s := L00Src.mk code a sd) ((l.length : Int) + 1) ⟨rfl, h0, h1⟩ (by omega)
    have g4 := g3 (by omega)
    obtain ⟨r, hr⟩ := Int.eq_ofNat_of_zero_le g2
    have hrl : r ≤ l.length := by omega
    have hs1 : sub l 0 (r : Int) = some (l.take r) := by rw [sub_some l 0 r (by omega) (by omega) (by omega)]; simp
    have hs2 : sub l (r : Int) (l.length : Int) = some (l.drop r) := by
      rw [sub_some l r _ (by omega) (by omega) (by omega)]
      have e1 : ((r : Int)).toNat = r := by omega
      have e2 : ((l.length : Int)).toNat = l.length := by omega
      rw [e1, e2, List.take_of_length_le (by rw [List.length_drop]; omega)]
    have hlt : (l.take r).length + (l.drop r).length = l.length := by rw [List.length_take, List.length_drop]; omega
    rw [e, Option.bind_some, hr, hs1, Option.bind_some]
    unfold s_l00Own
    rw [app_some _ _ (by unfold LIM; simp; omega), Option.bind_some, Option.bind_some, List.nil_append, app_some _ _ (by unfold LIM; simp; omega), Option.bind_some, hs2, Option.bind_some, app_some _ _ (by unfold LIM; simp; omega), Option.bind_some, w64_nat i (by omega)]
    have hperm : (l.take r ++ [(i : Int)] ++ l.drop r).Perm ((i : Int) :: l) := by
      have := List.perm_middle (a := (i : Int)) (l₁ := l.take r) (l₂ := l.drop r)
      rw [List.take_append_drop] at this
      simpa using this
    refine ih (i + 1) N _ v.2.at_ v.2.seed (hi + 2) (by omega) (by omega) g1.2.1 g1.2.2 (by omega) ?_
    rw [rng_succ]
    refine hperm.trans ((List.Perm.cons _ h3).trans ?_)
    exact (List.perm_append_singleton (i : Int) (rng i)).symm
theorem placesp_ok (code : List UInt8) (n : Nat) (hn : n ≤ 5) (N : Nat) (hN : 20 < N) : ∃ l, s_A2Places N code (n : Int) = some l ∧ l.Perm (rng n) := by
  unfold s_A2Places
  rw [fromA]
  simp only [Option.bind_some, withK_eq]
  exact plp_l1 code n hn _ (fun _ => rfl) n 0 N [] 0 0 0 (by omega) (by omega) (Int.le_refl _) (Int.le_refl _) (by omega) (List.Perm.refl _)
end Go.Proofs.Ythpdpfagfkopnaa
