/-
  Plain lemmas on these functions. No conditions but those that each states.
-/
import Derived.Test.YtikkolkickclhaaFnPrizesP10
namespace Go.Proofs.Ytikkolkickclhaa
set_option linter.unusedVariables false
set_option linter.unusedSimpArgs false
/-! The functions as wholes. -/
theorem grp_lens {l : List Result} (hn : l.length ≤ 40) : (grp l).length ≤ 40 ∧ (grp l).flatten.length = l.length := by
  have h2 : (grp l).flatten.length = l.length := by rw [grp_flat, ord_len]
  refine ⟨?_, h2⟩
  have : ∀ G : List (List Int), (∀ g ∈ G, g ≠ []) → G.length ≤ G.flatten.length := by
    intro G
    induction G with
    | nil => intro _; simp
    | cons g r ih =>
      intro h
      have h1 := List.length_pos_iff.2 (h g List.mem_cons_self)
      have h2 := ih fun x hx => h x (List.mem_cons_of_mem _ hx)
      simp only [List.length_cons, List.flatten_cons, List.length_append]
      omega
  have := this (grp l) (grp_ne l)
  omega
theorem grp_in (l : List Result) {α : Type} (z : α) : ∀ i ∈ (grp l).flatten, 0 ≤ i ∧ i < ((List.replicate l.length z).length : Int) := by
  intro i hi
  rw [grp_flat] at hi
  rw [List.length_replicate]
  exact ord_mem l hi
theorem ord_nodup (l : List Result) : (ord l).Nodup := (ord_perm l).nodup_iff.2 (rng_nodup _)
def pzL (l : List Result) (t : List Int) : List Int := setAll (List.replicate l.length 0) (pzP t 0 (grp l))
def ptL (l : List Result) (t : List Int) : List Fraction := setAll (List.replicate l.length ⟨0, 0⟩) (ptP t 0 (grp l))
theorem pzL_len (l : List Result) (t : List Int) : (pzL l t).length = l.length := by unfold pzL; rw [setAll_len, List.length_replicate]
theorem ptL_len (l : List Result) (t : List Int) : (ptL l t).length = l.length := by unfold ptL; rw [setAll_len, List.length_replicate]
theorem pof_ok (l : List Result) (hn : l.length ≤ 40) (t : List Int) (ht : tv t = true) (N : Nat) (hN : 400 < N) : i_pointsOf N l t = some (ptL l t) ∧ s_l22Points N l t = some (ptL l t) := by
  obtain ⟨t1, t2⟩ := tv_facts ht
  obtain ⟨g1, g2⟩ := ties_ok hn N (by omega)
  obtain ⟨g3, g4⟩ := grp_lens hn
  have h := fun kj => pt_l1 t2 kj (grp l) [] (List.replicate l.length ⟨0, 0⟩) N (grp_ne l) (by rw [List.nil_append]; omega) (by rw [List.nil_append]; omega) (by omega) (grp_in l _)
  unfold i_pointsOf s_l22Points
  rw [mk_some _ _ (by unfold LIM; omega), Option.bind_some, Option.bind_some, withK_n, g1, g2, Option.bind_some, Option.bind_some, withK_n]
  exact ⟨(h _).1, (h _).2⟩
theorem pts_ok (l : List Result) (hl : l.length ≤ 50) (t : List Int) (hl2 : t.length ≤ 50) (N : Nat) (hN : 1000 < N) : ∃ (o : List Int) (p : List Fraction) (c : Int), i_PrizesFor N l t = some (o, c) ∧ s_PrizesFor N l t = some (o, c) ∧ i_PointsFor N l t = some (p, c) ∧ s_PointsFor N l t = some (p, c) ∧ o.length ≤ 50 ∧ p.length ≤ 50 ∧ (c = 0 → l.length ≤ 40 ∧ tv t = true ∧ o = pzL l t ∧ p = ptL l t) := by
  obtain ⟨v1, v2⟩ := valid_ok l (by omega) N (by omega)
  obtain ⟨w1, w2⟩ := tab_ok t (by omega) N (by omega)
  unfold i_PrizesFor s_PrizesFor i_PointsFor s_PointsFor
  rw [v1, v2, w1, w2]
  simp only [Option.bind_some]
  cases hv : vR l with
  | false => exact ⟨[], [], 1, rfl, rfl, rfl, rfl, by simp, by simp, fun h => by cases h⟩
  | true =>
    cases ht : tv t with
    | false => exact ⟨[], [], 2, rfl, rfl, rfl, rfl, by simp, by simp, fun h => by cases h⟩
    | true =>
      have hn := vR_len hv
      obtain ⟨t1, t2⟩ := tv_facts ht
      obtain ⟨g1, g2⟩ := ties_ok hn N (by omega)
      obtain ⟨g3, g4⟩ := grp_lens hn
      obtain ⟨p1, p2⟩ := pof_ok l hn t ht N (by omega)
      have h := fun kj => pz_l1 t2 kj (grp l) [] (List.replicate l.length 0) N (by rw [List.nil_append]; omega) (by rw [List.nil_append]; omega) (by omega) (grp_in l _)
      refine ⟨pzL l t, ptL l t, 0, ?_, ?_, ?_, ?_, by rw [pzL_len]; omega, by rw [ptL_len]; omega, fun _ => ⟨hn, rfl, rfl, rfl⟩⟩
      · simp only [Bool.not_true, cond_false]
        rw [mk_some _ _ (by unfold LIM; omega), Option.bind_some, withK_n, g1, Option.bind_some]
        exact (h _).1
      · simp only [Bool.not_true, cond_false]
        rw [mk_some _ _ (by unfold LIM; omega), Option.bind_some, g2, Option.bind_some, withK_n]
        exact (h _).2
      · simp only [Bool.not_true, cond_false]
        rw [p1]; rfl
      · simp only [Bool.not_true, cond_false]
        rw [p2]; rfl
/-- what is known of the points of one -/
theorem pt_FG (l : List Result) (hn : l.length ≤ 40) (t : List Int) (ht : tv t = true) (k : Nat) (hk : k < (ptL l t).length) : ∃ u v, FG (prd (grp l)) 100000 (ptL l t)[k] u v ∧ v ≤ 40 := by
  obtain ⟨t1, t2⟩ := tv_facts ht
  obtain ⟨g3, g4⟩ := grp_lens hn
  rw [ptL_len] at hk
  have hmem : (k : Int) ∈ (grp l).flatten := by
    rw [grp_flat]
    exact (ord_perm l).mem_iff.2 ((rng_mem _ _).2 ⟨by omega, by omega⟩)
  obtain ⟨s, m, m1, m2, m3, m4, m5, _⟩ := gets t2 (grp l) 0 (grp_ne l) (k : Int) hmem
  have h0 : ∀ x ∈ ptP t 0 (grp l), 0 ≤ x.1 := fun x hx => by
    have : x.1 ∈ (ptP t 0 (grp l)).map (·.1) := List.mem_map.2 ⟨x, hx, rfl⟩
    rw [ptP_keys, grp_flat] at this
    exact (ord_mem l this).1
  have hat := setAll_at k _ _ (List.replicate l.length ⟨0, 0⟩) h0 (by rw [ptP_keys, grp_flat]; exact ord_nodup l) (by rw [List.length_replicate]; exact hk) m5
  have e : (ptL l t)[k]'(by rw [ptL_len]; exact hk) = fr s m := (List.getElem?_eq_some_iff.1 hat).2
  rw [e]
  obtain ⟨u, v, h1, _, h3⟩ := fr_FG (D := prd (grp l)) (C := 100000) m1 (Nat.dvd_trans m4 (Nat.dvd_mul_left _ _)) m2
  exact ⟨u, v, h1, by omega⟩
/-! Teams. -/
def ah (h : List Int) : Bool := h.all fun v => inR v 0 9
theorem ah_i1 (h : List Int) (hl : h.length ≤ 1000) (kj : Option Bool) (kj2 : Option (List Fraction × Int)) : ∀ (q i N : Nat), i + q = h.length → q < N → i_areHeats_l1 kj h N (i : Int) = (bif ah (h.drop i) then kj else some false) ∧ s_TeamTotals_l1 kj2 h N (i : Int) = (bif ah (h.drop i) then kj2 else some ([], 2)) := by
  intro q
  induction q with
  | zero =>
    intro i N h1 h2
    obtain ⟨N, rfl⟩ := pos_fuel h2
    have hz : ¬ (i : Int) < (h.length : Int) := by omega
    rw [List.drop_eq_nil_of_le (by omega)]
    simp only [i_areHeats_l1, s_TeamTotals_l1, hz, decide_false, cond_false, ah, List.all_nil, cond_true, and_self]
  | succ q ih =>
    intro i N h1 h2
    obtain ⟨N, rfl⟩ := pos_fuel h2
    have hi : i < h.length := by omega
    have hz : (i : Int) < (h.length : Int) := by omega
    obtain ⟨i1, i2⟩ := ih (i + 1) N (by omega) (by omega)
    rw [drop_cons h i hi]
    simp only [i_areHeats_l1, s_TeamTotals_l1, hz, decide_true, cond_true, idx_lt h i hi, Option.bind_some, bw_i, bw_s, w64_nat i (by omega), i1, i2, ah, List.all_cons]
    cases inR h[i] 0 9
    · exact ⟨rfl, rfl⟩
    · simp only [Bool.not_true, cond_false, Bool.true_and, and_self]
section
variable {l : List Result} {p : List Fraction} {D : Nat} (hD0 : 0 < D) (hD : D ≤ 2300000) (hp : ∀ (k : Nat) (h : k < p.length), ∃ u v, FG D 100000 p[k] u v ∧ v ≤ 40) (hl : p.length = l.length) (h40 : l.length ≤ 40) (tm : List Int) (htl : tm.length = l.length) (hta : ∀ v ∈ tm, 0 ≤ v ∧ v ≤ 9)
include hD0 hD hp hl h40 htl hta
theorem team_l (kj : List Fraction → Option (List Fraction × Int)) : ∀ (q x N : Nat) (T : List Fraction), x + q = l.length → q + 100000100 < N → T.length = 10 → (∀ f ∈ T, ∃ u v, FG D (100000 * x) f u v) →
    ∃ T' : List Fraction, i_TeamTotals_l2 kj tm p N T (x : Int) = kj T' ∧ s_TeamTotals_l3 kj l tm p N T (x : Int) = kj T' ∧ T'.length = 10 ∧ ∀ f ∈ T', 0 ≤ f.num := by
  intro q
  induction q with
  | zero =>
    intro x N T h1 h2 h3 h4
    obtain ⟨N, rfl⟩ := pos_fuel h2
    have hz : ¬ (x : Int) < (p.length : Int) := by omega
    have hz2 : ¬ (x : Int) < (l.length : Int) := by omega
    refine ⟨T, by simp only [i_TeamTotals_l2, hz, decide_false, cond_false], by simp only [s_TeamTotals_l3, hz2, decide_false, cond_false], h3, fun f hf => ?_⟩
    obtain ⟨u, v, h⟩ := h4 f hf
    rw [h.e]; show (0 : Int) ≤ u; omega
  | succ q ih =>
    intro x N T h1 h2 h3 h4
    obtain ⟨N, rfl⟩ := pos_fuel h2
    have hz : (x : Int) < (p.length : Int) := by omega
    have hz2 : (x : Int) < (l.length : Int) := by omega
    have hx : x < p.length := by omega
    have hx2 : x < tm.length := by omega
    obtain ⟨b1, b2⟩ := hta _ (List.getElem_mem hx2)
    have hie := idx_int T _ b1 (by rw [h3]; omega)
    obtain ⟨u, v, hf⟩ := h4 _ (List.getElem_mem (l := T) (n := (tm[x]).toNat) (by omega))
    obtain ⟨u', v', hf', hv40⟩ := hp x hx
    obtain ⟨w, u2, v2, hw, e1, e2⟩ := fr_add N hf hf' hD0 hv40 hD (by omega) (by omega) (by omega)
    obtain ⟨T', i1, i2, i3, i4⟩ := ih (x + 1) N (T.set (tm[x]).toNat w) (by omega) (by omega) (by rw [List.length_set]; exact h3) (fun f hf => by
      rcases List.mem_or_eq_of_mem_set hf with h | rfl
      · obtain ⟨a, b, hab⟩ := h4 f h
        exact ⟨a, b, hab.e, hab.v0, hab.dv, Nat.le_trans hab.bd (Nat.mul_le_mul_right _ (by omega))⟩
      · exact ⟨u2, v2, by rw [Nat.mul_add, Nat.mul_one]; exact hw⟩)
    refine ⟨T', ?_, ?_, i3, i4⟩
    · simp only [i_TeamTotals_l2, hz, decide_true, cond_true, idx_lt _ x hx, idx_lt _ x hx2, Option.bind_some, hie, e1, w64_nat x (by omega)]
      exact i1
    · simp only [s_TeamTotals_l3, hz2, decide_true, cond_true, idx_lt _ x hx, idx_lt _ x hx2, Option.bind_some, hie, e2, w64_nat x (by omega)]
      exact i2
end
theorem team_i1 (kj : List Fraction → Option (List Fraction × Int)) (M : Nat) : i_TeamTotals_l1 kj (List.replicate 10 ⟨0, 0⟩) (M + 11) (List.replicate 10 ⟨0, 0⟩) 0 = kj (List.replicate 10 ⟨0, 1⟩) := by rfl
theorem team_s2 (kj : List Fraction → Option (List Fraction × Int)) : ∀ (q k N : Nat), k + q = 10 → q < N → s_TeamTotals_l2 kj N (List.replicate k ⟨0, 1⟩) (k : Int) = kj (List.replicate 10 ⟨0, 1⟩) := by
  intro q
  induction q with
  | zero =>
    intro k N h1 h2
    obtain ⟨N, rfl⟩ := pos_fuel h2
    have hz : ¬ (k : Int) < 10 := by omega
    obtain rfl : k = 10 := by omega
    simp only [s_TeamTotals_l2, hz, decide_false, cond_false]
  | succ q ih =>
    intro k N h1 h2
    obtain ⟨N, rfl⟩ := pos_fuel h2
    have hz : (k : Int) < 10 := by omega
    simp only [s_TeamTotals_l2, hz, decide_true, cond_true]
    rw [app_some _ _ (by simp; unfold LIM; omega), Option.bind_some, w64_nat k (by omega), ← List.replicate_succ']
    exact ih (k + 1) N (by omega) (by omega)
theorem teams_ok (l : List Result) (hl : l.length ≤ 50) (tm : List Int) (hm : tm.length ≤ 50) (t : List Int) (hl2 : t.length ≤ 50) (N : Nat) (hN : 100001000 < N) : ∃ (T : List Fraction) (c : Int), i_TeamTotals N l tm t = some (T, c) ∧ s_TeamTotals N l tm t = some (T, c) ∧ T.length ≤ 10 ∧ ∀ f ∈ T, 0 ≤ f.num := by
  obtain ⟨v1, v2⟩ := valid_ok l (by omega) N (by omega)
  obtain ⟨w1, w2⟩ := tab_ok t (by omega) N (by omega)
  unfold i_TeamTotals s_TeamTotals i_areHeats
  rw [v1, v2, w1, w2]
  simp only [Option.bind_some, withK_n]
  have hh := fun kj kj2 => ah_i1 tm (by omega) kj kj2 tm.length 0 N (by omega) (by omega)
  simp only [List.drop_zero, show ((0 : Nat) : Int) = 0 from rfl] at hh
  cases hv : vR l with
  | false => exact ⟨[], 1, rfl, rfl, by simp, fun _ h => by cases h⟩
  | true =>
    simp only [Bool.not_true, cond_false]
    rw [(hh _ none).1, (hh none _).2]
    cases ha : ah tm with
    | false => exact ⟨[], 2, rfl, rfl, by simp, fun _ h => by cases h⟩
    | true =>
      simp only [cond_true, Option.bind_some]
      by_cases hq : tm.length = l.length
      · have z1 : ((tm.length : Int) == (l.length : Int)) = true := by rw [hq]; simp
        have z2 : ((tm.length : Int) != (l.length : Int)) = false := by rw [hq]; simp
        rw [z1, z2]
        simp only [Bool.not_true, orO_false, Option.bind_some]
        cases ht : tv t with
        | false => exact ⟨[], 2, rfl, rfl, by simp, fun _ h => by cases h⟩
        | true =>
          have hn := vR_len hv
          obtain ⟨g3, g4⟩ := grp_lens hn
          obtain ⟨p1, p2⟩ := pof_ok l hn t ht N (by omega)
          have hta : ∀ v ∈ tm, 0 ≤ v ∧ v ≤ 9 := fun v hv => by
            have := List.all_eq_true.1 ha v hv
            unfold inR at this
            simpa using this
          obtain ⟨T', i1, i2, i3, i4⟩ := team_l (l := l) (prd_cube (grp l) (grp_ne l)).2 (prd_le _ (grp_ne l) (by omega)) (fun k hk => pt_FG l hn t ht k hk) (ptL_len l t) hn tm hq hta (fun l32 => some (l32, 0)) l.length 0 N (List.replicate 10 ⟨0, 1⟩) (by omega) (by omega) (by simp) (fun f hf => ⟨0, 1, by rw [List.eq_of_mem_replicate hf]; rfl, by decide, Nat.one_dvd _, by simp⟩)
          rw [show ((0 : Nat) : Int) = 0 from rfl] at i1 i2
          refine ⟨T', 0, ?_, ?_, by omega, i4⟩
          · simp only [Bool.not_true, cond_false]
            obtain ⟨M, hM⟩ : ∃ M, N = M + 11 := ⟨N - 11, by omega⟩
            rw [show mk 10 (Fraction.mk 0 0) = some (List.replicate 10 ⟨0, 0⟩) from mk_some 10 _ (by unfold LIM; omega), Option.bind_some]
            have := fun kj => team_i1 kj M
            rw [← hM] at this
            rw [this, p1, Option.bind_some]
            exact i1
          · simp only [Bool.not_true, cond_false]
            have := fun kj => team_s2 kj 10 0 N (by omega) (by omega)
            rw [show List.replicate 0 (Fraction.mk 0 1) = [] from rfl, show ((0 : Nat) : Int) = 0 from rfl] at this
            rw [this, p2, Option.bind_some]
            exact i2
      · have z1 : ((tm.length : Int) == (l.length : Int)) = false := by rw [beq_eq_false_iff_ne]; omega
        have z2 : ((tm.length : Int) != (l.length : Int)) = true := by rw [bne_iff_ne]; omega
        rw [z1, z2]
        exact ⟨[], 2, rfl, rfl, by simp, fun _ h => by cases h⟩
end Go.Proofs.Ytikkolkickclhaa
