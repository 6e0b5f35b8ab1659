/-
  Plain lemmas on these functions. No conditions but those that each states.
-/
import Derived.Test.YtikkolkickclhaaFnPrizesP15
namespace Go.Proofs.Ytikkolkickclhaa
set_option linter.unusedVariables false
set_option linter.unusedSimpArgs false
/-! The law of prizes. -/
theorem f6_l1 (l : List Int) (hl : l.length ≤ 100) (kj : Option Bool) : ∀ (q x N : Nat), x + q = l.length → q < N → w_f6ints_l1 kj l l N (x : Int) = kj := by
  intro q
  induction q with
  | zero =>
    intro x N hx hN
    obtain ⟨N, rfl⟩ := pos_fuel hN
    rw [w_f6ints_l1, decide_eq_false (by omega : ¬ (x : Int) < (l.length : Int)), cond_false]
  | succ q ih =>
    intro x N hx hN
    obtain ⟨N, rfl⟩ := pos_fuel hN
    have hlt : x < l.length := by omega
    have hne : (l[x] != l[x]) = false := by simp
    rw [w_f6ints_l1, decide_eq_true (by omega : (x : Int) < (l.length : Int)), cond_true, idx_lt l x hlt, Option.bind_some, Option.bind_some, hne, cond_false, w64_nat x (by omega)]
    exact ih (x + 1) N (by omega) (by omega)
theorem ints_ok (l : List Int) (hl : l.length ≤ 100) (N : Nat) (hN : 200 < N) : w_f6ints N l l = some true := by
  unfold w_f6ints
  have hne : ((l.length : Int) != (l.length : Int)) = false := by simp
  rw [hne, cond_false, withK_n]
  exact f6_l1 l hl (some true) l.length 0 N (by omega) (by omega)
theorem beq_fr (f : Fraction) : Fraction.beq f f = true := by unfold Fraction.beq; simp
theorem wz_l1 (kj : Option Bool) (r17 : List Fraction × Int) (hl : r17.1.length ≤ 100) : ∀ (q x N : Nat), x + q = r17.1.length → q < N → w_FnPrizes_l1 kj r17 r17 N (x : Int) = kj := by
  intro q
  induction q with
  | zero =>
    intro x N hx hN
    obtain ⟨N, rfl⟩ := pos_fuel hN
    rw [w_FnPrizes_l1, decide_eq_false (by omega : ¬ (x : Int) < (r17.1.length : Int)), cond_false]
  | succ q ih =>
    intro x N hx hN
    obtain ⟨N, rfl⟩ := pos_fuel hN
    have hlt : x < r17.1.length := by omega
    rw [w_FnPrizes_l1, decide_eq_true (by omega : (x : Int) < (r17.1.length : Int)), cond_true, idx_lt _ x hlt, Option.bind_some, Option.bind_some, beq_fr, Bool.not_true, cond_false, w64_nat x (by omega)]
    exact ih (x + 1) N (by omega) (by omega)
theorem wz_l2 (kj : Option Bool) (r : List Fraction × Int) (hl : r.1.length ≤ 100) (h0 : ∀ f ∈ r.1, 0 ≤ f.num) : ∀ (q x N : Nat), x + q = r.1.length → q < N → w_FnPrizes_l2 kj r r N (x : Int) = kj := by
  intro q
  induction q with
  | zero =>
    intro x N hx hN
    obtain ⟨N, rfl⟩ := pos_fuel hN
    rw [w_FnPrizes_l2, decide_eq_false (by omega : ¬ (x : Int) < (r.1.length : Int)), cond_false]
  | succ q ih =>
    intro x N hx hN
    obtain ⟨N, rfl⟩ := pos_fuel hN
    have hlt : x < r.1.length := by omega
    have hn := h0 _ (List.getElem_mem hlt)
    rw [w_FnPrizes_l2, decide_eq_true (by omega : (x : Int) < (r.1.length : Int)), cond_true, idx_lt _ x hlt, Option.bind_some, Option.bind_some, beq_fr, Bool.not_true, orO_false, Option.bind_some, Option.bind_some, decide_eq_false (by omega), cond_false, w64_nat x (by omega)]
    exact ih (x + 1) N (by omega) (by omega)
theorem wz_l3 (r7 : List Result × List Int) (hl : r7.1.length ≤ 100) (hb : ∀ v ∈ r7.2, 0 ≤ v ∧ v ≤ 100000) (kj : Int → Option Bool) : ∀ (q x N : Nat) (s : Int), x + q = r7.1.length → q < N → 0 ≤ s → s ≤ 100000 * x → w_FnPrizes_l3 kj r7 N s (x : Int) = kj (s + tsm r7.2 x q) := by
  intro q
  induction q with
  | zero =>
    intro x N s h1 h2 _ _
    obtain ⟨N, rfl⟩ := pos_fuel h2
    have hz : ¬ (x : Int) < (r7.1.length : Int) := by omega
    rw [tsm_zero]
    simp only [w_FnPrizes_l3, hz, decide_false, andO_false, Option.bind_some, cond_false, Int.add_zero]
  | succ q ih =>
    intro x N s h1 h2 h3 h4
    obtain ⟨N, rfl⟩ := pos_fuel h2
    have hz : (x : Int) < (r7.1.length : Int) := by omega
    by_cases h : x < r7.2.length
    · have hz2 : (x : Int) < (r7.2.length : Int) := by omega
      have hv := hb _ (List.getElem_mem h)
      simp only [w_FnPrizes_l3, hz, hz2, decide_true, andO_true, Option.bind_some, cond_true, idx_lt _ x h, w64_nat x (by omega)]
      rw [w64_id (by omega) (by omega), ih (x + 1) N _ (by omega) (by omega) (by omega) (by omega), tsm_succ _ x q h, Int.add_assoc]
    · have hz2 : ¬ (x : Int) < (r7.2.length : Int) := by omega
      simp only [w_FnPrizes_l3, hz, hz2, decide_true, decide_false, andO_true, Option.bind_some, cond_false]
      rw [tsm_out _ x _ (by omega), Int.add_zero]
theorem f6s_l1 (kj : Int → Option Int) (l : List Int) (hl : l.length ≤ 100) (hb : ∀ v ∈ l, 0 ≤ v ∧ v ≤ 100001) : ∀ (q x N : Nat) (s : Int), x + q = l.length → q < N → 0 ≤ s → s ≤ 100001 * x → w_f6sum_l1 kj l N s (x : Int) = kj (s + isum (l.drop x)) := by
  intro q
  induction q with
  | zero =>
    intro x N s hx hN h0 h1
    obtain ⟨N, rfl⟩ := pos_fuel hN
    rw [w_f6sum_l1, decide_eq_false (by omega : ¬ (x : Int) < (l.length : Int)), cond_false, List.drop_eq_nil_of_le (by omega)]
    simp only [isum, Int.add_zero]
  | succ q ih =>
    intro x N s hx hN h0 h1
    obtain ⟨N, rfl⟩ := pos_fuel hN
    have hlt : x < l.length := by omega
    have hv := hb _ (List.getElem_mem hlt)
    rw [w_f6sum_l1, decide_eq_true (by omega : (x : Int) < (l.length : Int)), cond_true, idx_lt l x hlt, Option.bind_some, w64_nat x (by omega), w64_id (by omega) (by omega), List.drop_eq_getElem_cons hlt, isum, ← Int.add_assoc]
    exact ih (x + 1) N _ (by omega) (by omega) (by omega) (by omega)
/-- prize and points of one -/
theorem both_at (l : List Result) (hn : l.length ≤ 40) (t : List Int) (ht : tv t = true) (k : Nat) (hk : k < l.length) : ∃ p u v : Nat, (pzL l t)[k]? = some (p : Int) ∧ (ptL l t)[k]? = some ⟨(u : Int), (v : Int)⟩ ∧ 0 < v ∧ v ≤ 40 ∧ p ≤ 100001 ∧ u ≤ 4000000 ∧ u + 1 ≤ p * v + v ∧ p * v + 1 ≤ u + v := by
  obtain ⟨t1, t2⟩ := tv_facts ht
  obtain ⟨g3, g4⟩ := grp_lens hn
  have hmem : (k : Int) ∈ (grp l).flatten := by
    rw [grp_flat]
    exact (ord_perm l).mem_iff.2 ((rng_mem _ _).2 ⟨by omega, by omega⟩)
  obtain ⟨s, m, m1, m2, m3, m4, m5, m6⟩ := gets t2 (grp l) 0 (grp_ne l) (k : Int) hmem
  have h0 : ∀ x ∈ ptP t 0 (grp l), 0 ≤ x.1 := fun x hx => by
    have : x.1 ∈ (ptP t 0 (grp l)).map (·.1) := List.mem_map.2 ⟨x, hx, rfl⟩
    rw [ptP_keys, grp_flat] at this
    exact (ord_mem l this).1
  have h0' : ∀ x ∈ pzP t 0 (grp l), 0 ≤ x.1 := fun x hx => by
    have : x.1 ∈ (pzP t 0 (grp l)).map (·.1) := List.mem_map.2 ⟨x, hx, rfl⟩
    rw [pzP_keys, grp_flat] at this
    exact (ord_mem l this).1
  have hat := setAll_at k _ _ (List.replicate l.length ⟨0, 0⟩) h0 (by rw [ptP_keys, grp_flat]; exact ord_nodup l) (by rw [List.length_replicate]; exact hk) m5
  have hatz := fun u hu => setAll_at k u _ (List.replicate l.length 0) h0' (by rw [pzP_keys, grp_flat]; exact ord_nodup l) (by rw [List.length_replicate]; exact hk) hu
  obtain ⟨u, v, f1, f2, f3⟩ := fr_FG (D := prd (grp l)) (C := 100000) m1 (Nat.dvd_trans m4 (Nat.dvd_mul_left _ _)) m2
  have hv := f1.v0
  have hu : u ≤ 4000000 := by
    have := f1.bd
    have h2 : 100000 * v ≤ 100000 * 40 := Nat.mul_le_mul_left _ (by omega)
    omega
  have hdm := Nat.div_add_mod s m
  have hmm := Nat.mod_lt s m1
  have hq : s / m ≤ 100000 := Nat.div_le_of_le_mul (by rw [Nat.mul_comm]; exact m2)
  generalize s / m = q at *
  generalize s % m = r at *
  -- u / v is s / m: q below it, q + 1 above it
  have k1 : q * v ≤ u := by
    refine Nat.le_of_mul_le_mul_right (c := m) ?_ m1
    rw [f2, Nat.mul_right_comm, ← hdm, Nat.mul_comm q m]
    exact Nat.mul_le_mul_right v (by omega)
  have k2 : u < (q + 1) * v := by
    refine Nat.lt_of_mul_lt_mul_right (a := m) ?_
    rw [f2, Nat.mul_right_comm, ← hdm]
    refine Nat.mul_lt_mul_of_pos_right ?_ hv
    rw [Nat.add_mul, Nat.one_mul, Nat.mul_comm q m]
    omega
  rw [Nat.add_mul, Nat.one_mul] at k2
  have e : (ptL l t)[k]? = some ⟨(u : Int), (v : Int)⟩ := by rw [← f1.e]; exact hat
  rcases m6 with h | ⟨hr, h⟩
  · exact ⟨q, u, v, hatz _ h, e, hv, by omega, by omega, hu, by omega, by omega⟩
  · have k3 : q * v < u := by
      refine Nat.lt_of_mul_lt_mul_right (a := m) ?_
      rw [f2, Nat.mul_right_comm, ← hdm, Nat.mul_comm q m]
      exact Nat.mul_lt_mul_of_pos_right (by omega) hv
    refine ⟨q + 1, u, v, hatz _ h, e, hv, by omega, by omega, hu, ?_, ?_⟩
    · rw [Nat.add_mul, Nat.one_mul]; omega
    · rw [Nat.add_mul, Nat.one_mul]; omega
theorem wz_l4 (r7 : List Result × List Int) (hn : r7.1.length ≤ 40) (ht : tv r7.2 = true) (kj : Option Bool) (r14 : List Int × Int) (r20 : List Fraction × Int) (h14 : r14.1 = pzL r7.1 r7.2) (h20 : r20.1 = ptL r7.1 r7.2) : ∀ (q x N : Nat), x + q = r7.1.length → q < N → w_FnPrizes_l4 kj r7 r14 r20 N (x : Int) = kj := by
  intro q
  induction q with
  | zero =>
    intro x N hx hN
    obtain ⟨N, rfl⟩ := pos_fuel hN
    rw [w_FnPrizes_l4, decide_eq_false (by omega : ¬ (x : Int) < (r7.1.length : Int)), cond_false]
  | succ q ih =>
    intro x N hx hN
    obtain ⟨N, rfl⟩ := pos_fuel hN
    have hlt : x < r7.1.length := by omega
    obtain ⟨p, u, v, a1, a2, a3, a4, a5, a6, a7, a8⟩ := both_at r7.1 hn r7.2 ht x hlt
    have e1 : idx r20.1 (x : Int) = some ⟨(u : Int), (v : Int)⟩ := by rw [h20, idx_nat]; exact a2
    have e2 : idx r14.1 (x : Int) = some (p : Int) := by rw [h14, idx_nat]; exact a1
    have b1 : p * v ≤ 100001 * 40 := Nat.mul_le_mul a5 a4
    have e3 : w64 ((p : Int) * (v : Int)) = ((p * v : Nat) : Int) := by rw [← Int.natCast_mul, w64_id (by omega) (by omega)]
    have e4 : w64 (w64 ((u : Int) - (v : Int)) + 1) = (u : Int) - v + 1 := by rw [w64_id (x := (u : Int) - v) (by omega) (by omega), w64_id (by omega) (by omega)]
    have e5 : w64 (w64 ((u : Int) + (v : Int)) - 1) = (u : Int) + v - 1 := by rw [w64_id (x := (u : Int) + v) (by omega) (by omega), w64_id (by omega) (by omega)]
    rw [w_FnPrizes_l4, decide_eq_true (by omega : (x : Int) < (r7.1.length : Int)), cond_true, e1, e2]
    simp only [Option.bind_some, e3, e4, e5]
    rw [decide_eq_false (by omega : ¬ ((p * v : Nat) : Int) < (u : Int) - v + 1), decide_eq_false (by omega : ¬ ((p * v : Nat) : Int) > (u : Int) + v - 1), orO_false, Option.bind_some, cond_false, w64_nat x (by omega)]
    exact ih (x + 1) N (by omega) (by omega)
theorem pz_sum (l : List Result) (hn : l.length ≤ 40) (t : List Int) (ht : tv t = true) : isum (pzL l t) = tsm t 0 l.length := by
  obtain ⟨t1, t2⟩ := tv_facts ht
  obtain ⟨g3, g4⟩ := grp_lens hn
  have h0' : ∀ x ∈ pzP t 0 (grp l), 0 ≤ x.1 ∧ x.1 < l.length := fun x hx => by
    have : x.1 ∈ (pzP t 0 (grp l)).map (·.1) := List.mem_map.2 ⟨x, hx, rfl⟩
    rw [pzP_keys, grp_flat] at this
    exact ord_mem l this
  have hz : ∀ n : Nat, isum (List.replicate n 0) = 0 := fun n => by
    induction n with
    | zero => rfl
    | succ n ih => simp only [List.replicate_succ, isum, ih]; rfl
  unfold pzL
  rw [setAll_sum _ _ (fun x hx => (h0' x hx).1) (by rw [pzP_keys, grp_flat]; exact ord_nodup l) (fun x hx => by
    have := h0' x hx
    rw [List.getElem?_replicate, if_pos (by omega)]), hz, pzP_sum t2 _ _ (grp_ne l), g4, Int.zero_add]
theorem law_FnPrizes (code : List UInt8) (hlen : wfL wfByte code) : ∃ N, w_FnPrizes N code = some true := by
  have _ := hlen
  refine ⟨200000000, ?_⟩
  suffices h : ∀ N, 190000000 < N → w_FnPrizes N code = some true from h 200000000 (by omega)
  intro N hN
  unfold w_FnPrizes w_f6big
  rw [Option.bind_some]
  cases decide ((code.length : Int) > 4096) with
  | true => rfl
  | false =>
    rw [cond_false]
    obtain ⟨r7, d1, d2, d3⟩ := dPrizes code N (by omega)
    obtain ⟨r23, e1, e2, e3, e4⟩ := dTeams code N (by omega)
    obtain ⟨o, p, c, g1, g2, g3, g4, g5, g6, g7⟩ := pts_ok r7.1 (by omega) r7.2 (by omega) N (by omega)
    obtain ⟨T, c2, t1, t2, t3, t4⟩ := teams_ok r23.1 (by omega) r23.2.1 (by omega) r23.2.2 (by omega) N (by omega)
    have f1 := ints_ok o (by omega) N (by omega)
    have bn : ∀ x : Int, (x != x) = false := fun x => by simp
    rw [d1, Option.bind_some]
    simp only [g1, g2, g3, g4, e1, t1, t2, f1, Option.bind_some, bn, orO_some, Bool.not_true, Bool.or_self, cond_false, withK_n]
    have l1 := fun kj => wz_l1 kj (p, c) (by show p.length ≤ 100; omega) p.length 0 N (by show 0 + p.length = p.length; omega) (by omega)
    have l2 := fun kj => wz_l2 kj (T, c2) (by show T.length ≤ 100; omega) t4 T.length 0 N (by show 0 + T.length = T.length; omega) (by omega)
    rw [show ((0 : Nat) : Int) = 0 from rfl] at l1 l2
    rw [l1, l2]
    by_cases hc : c = 0
    · obtain ⟨h1, h2, h3, h4⟩ := g7 hc
      obtain ⟨_, tb⟩ := tv_facts h2
      have z : (c != 0) = false := by rw [hc]; rfl
      rw [z, cond_false]
      have l3 := fun kj => wz_l3 r7 (by omega) tb kj r7.1.length 0 N 0 (by omega) (by omega) (by omega) (by omega)
      have l4 := fun kj => wz_l4 r7 h1 h2 kj (o, c) (p, c) h3 h4 r7.1.length 0 N (by omega) (by omega)
      rw [show ((0 : Nat) : Int) = 0 from rfl] at l3 l4
      rw [l3, l4]
      have ob : ∀ v ∈ o, 0 ≤ v ∧ v ≤ 100001 := fun v hv => by
        obtain ⟨i, hi, rfl⟩ := List.getElem_of_mem hv
        have hil : i < r7.1.length := by rw [h3, pzL_len] at hi; exact hi
        obtain ⟨p', u, w, a1, _, _, _, a5, _⟩ := both_at r7.1 h1 r7.2 h2 i hil
        rw [← h3, List.getElem?_eq_getElem hi] at a1
        have := Option.some.inj a1
        omega
      have l5 := f6s_l1 (fun s => some s) o (by omega) ob o.length 0 N 0 (by omega) (by omega) (by omega) (by omega)
      rw [show ((0 : Nat) : Int) = 0 from rfl, List.drop_zero, Int.zero_add] at l5
      unfold w_f6sum
      rw [withK_n, l5, Option.bind_some, h3, pz_sum r7.1 h1 r7.2 h2]
      simp
    · have z : (c != 0) = true := by simpa using hc
      rw [z]; rfl
end Go.Proofs.Ytikkolkickclhaa
