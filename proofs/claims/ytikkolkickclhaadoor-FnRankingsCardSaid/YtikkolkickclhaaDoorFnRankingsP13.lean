/-
  Plain lemmas on these functions. No conditions but those that each states.
-/
import Derived.Test.YtikkolkickclhaaDoorFnRankingsP12
namespace Go.Proofs.YtikkolkickclhaaDoor
set_option linter.unusedVariables false
set_option linter.unusedSimpArgs false
/-! Groups of equal ones, and the text of a ranking. -/
def tdL (G : List (List Int)) : List (List Int) := G.filter fun g => decide (g.length > 1)
theorem td_l1 (kI kS : List (List Int) → Option (List (List Int) × Int)) : ∀ (B A o : List (List Int)) (N : Nat), (A ++ B).length ≤ 100 → B.length < N → o.length ≤ A.length →
    i_TiedResults_l1 kI (tiesOf 0 (A ++ B)) N o (A.length : Int) = kI (o ++ tdL B) ∧ s_TiedResults_l1 kS (A ++ B) N o (A.length : Int) = kS (o ++ tdL B)
  | [], A, o, N, h1, h2, h3 => by
    obtain ⟨N, rfl⟩ := pos_fuel h2
    have hz : ¬ (A.length : Int) < ((tiesOf 0 A).length : Int) := by rw [ties_len]; omega
    have hz2 : ¬ (A.length : Int) < (A.length : Int) := by omega
    rw [List.append_nil]
    simp only [i_TiedResults_l1, s_TiedResults_l1, hz, hz2, decide_false, cond_false, tdL, List.filter_nil, List.append_nil, and_self]
  | g :: B, A, o, N, h1, h2, h3 => by
    obtain ⟨N, rfl⟩ := pos_fuel h2
    simp only [List.length_append, List.length_cons] at h1 h2
    have hz : (A.length : Int) < ((tiesOf 0 (A ++ g :: B)).length : Int) := by rw [ties_len]; simp; omega
    have hz2 : (A.length : Int) < ((A ++ g :: B).length : Int) := by simp; omega
    have el : (A ++ [g]).length = A.length + 1 := by simp
    have ec : A ++ g :: B = (A ++ [g]) ++ B := by simp
    have e : decide ((g.length : Int) > 1) = decide (g.length > 1) := decide_eq_decide.2 (by omega)
    simp only [i_TiedResults_l1, s_TiedResults_l1, hz, hz2, decide_true, cond_true, withK_n, ties_at, grp_at, Option.bind_some, w64_nat A.length (by omega), e, tdL, List.filter_cons]
    cases hc : decide (g.length > 1) with
    | true =>
      obtain ⟨i1, i2⟩ := td_l1 kI kS B (A ++ [g]) (o ++ [g]) N (by rw [List.length_append, el]; omega) (by omega) (by simp; omega)
      rw [el, ← ec] at i1 i2
      simp only [cond_true, if_true]
      rw [app_some _ _ (by simp; unfold LIM; omega)]
      simp only [Option.bind_some]
      rw [i1, i2]
      unfold tdL
      simp
    | false =>
      obtain ⟨i1, i2⟩ := td_l1 kI kS B (A ++ [g]) o N (by rw [List.length_append, el]; omega) (by omega) (by rw [el]; omega)
      rw [el, ← ec] at i1 i2
      simp only [cond_false, Bool.false_eq_true, if_false]
      exact ⟨i1, i2⟩
theorem tied_ok (l : List Result) (hl : l.length ≤ 50) (N : Nat) (hN : 1000 < N) : ∃ (o : List (List Int)) (c : Int), i_TiedResults N l = some (o, c) ∧ s_TiedResults N l = some (o, c) ∧ o.length ≤ 50 ∧ (o = [] ∨ vR l = true ∧ o = tdL (grp l)) := by
  obtain ⟨v1, v2⟩ := valid_ok l (by omega) N (by omega)
  unfold i_TiedResults s_TiedResults
  rw [v1, v2]
  simp only [Option.bind_some]
  cases hv : vR l with
  | false => exact ⟨[], 1, rfl, rfl, by simp, .inl rfl⟩
  | true =>
    have hn := vR_len hv
    obtain ⟨g1, g2⟩ := ties_ok hn N (by omega)
    obtain ⟨g3, g4⟩ := grp_lens hn
    obtain ⟨i1, i2⟩ := td_l1 (fun l8 => some (l8, 0)) (fun l8 => some (l8, 0)) (grp l) [] [] N (by rw [List.nil_append]; omega) (by omega) (by simp)
    have hf : (tdL (grp l)).length ≤ (grp l).length := List.length_filter_le _ _
    refine ⟨tdL (grp l), 0, ?_, ?_, by omega, .inr ⟨rfl, rfl⟩⟩
    · simp only [Bool.not_true, cond_false, withK_n, g1, Option.bind_some]
      exact i1
    · simp only [Bool.not_true, cond_false, g2, Option.bind_some, withK_n]
      exact i2
/-! texts -/
theorem nm_len {s : Str} (h : nm s = true) : s.length ≤ 12 := by
  cases s with
  | nil => simp
  | cons c r =>
    unfold nm at h
    simp only [Bool.and_eq_true, decide_eq_true_eq] at h
    simp only [List.length_cons]; omega
theorem vq_nm (l : List Result) : ∀ (q i : Nat), i + q = l.length → vq l q i = true → ∀ (j : Nat) (h : j < l.length), i ≤ j → (l[j]).name.length ≤ 12
  | 0, i, h1, _, j, h, hj => by omega
  | q + 1, i, h1, h2, j, h, hj => by
    rw [vq_succ l q i (by omega), Bool.and_eq_true] at h2
    by_cases e : j = i
    · subst e
      have := h2.1
      unfold fR at this
      simp only [Bool.and_eq_true] at this
      exact nm_len this.1.1
    · exact vq_nm l q (i + 1) (by omega) h2.2 j h (by omega)
theorem nm12 {l : List Result} (h : vR l = true) (j : Nat) (hj : j < l.length) : (l[j]).name.length ≤ 12 := by
  unfold vR at h
  rw [Bool.and_eq_true] at h
  exact vq_nm l l.length 0 (by omega) h.1 j hj (by omega)
def tx (l : List Result) (x : Int) : Str := Lib.itoa ((cb l x : Int) + 1) ++ [46, 32] ++ (gR l x).name
theorem cb_40 (l : List Result) (x : Int) : cb l x ≤ l.length := by
  have := List.countP_le_length (p := fun z => bt l z x) (l := rng l.length)
  rw [rng_len] at this; exact this
theorem tx_len {l : List Result} (h : vR l = true) (x : Int) (hx : 0 ≤ x ∧ x < l.length) : (tx l x).length ≤ 40 := by
  have h1 := nm12 h x.toNat (by omega)
  have h2 := gR_at l x.toNat (by omega)
  rw [show ((x.toNat : Nat) : Int) = x by omega] at h2
  have hn := vR_len h
  have h4 := cb_40 l x
  obtain ⟨_, _, h3, _⟩ := Dec_eq 100 ((cb l x : Int) + 1) (by omega) (by omega) (by omega)
  unfold tx
  rw [h2]
  simp only [List.length_append, List.length_cons, List.length_nil]
  omega
section
variable {l : List Result} (hv : vR l = true)
include hv
theorem rt_i2 (kj : List Str → Option Str) (a : Nat) (g : List Int) (hg : ∀ x ∈ g, (0 ≤ x ∧ x < l.length) ∧ cb l x = a) (hgl : g.length ≤ 100) (ha : a ≤ 100) : ∀ (q x N : Nat) (o : List Str), x + q = g.length → q < N → o.length + q ≤ 200 → i_RankText_l2 kj l ⟨(a : Int) + 1, g⟩ N o (x : Int) = kj (o ++ (g.drop x).map (tx l)) := by
  intro q
  induction q with
  | zero =>
    intro x N o h1 h2 _
    obtain ⟨N, rfl⟩ := pos_fuel h2
    have hz : ¬ (x : Int) < (g.length : Int) := by omega
    rw [List.drop_eq_nil_of_le (by omega)]
    simp only [i_RankText_l2, hz, decide_false, cond_false, List.map_nil, List.append_nil]
  | succ q ih =>
    intro x N o h1 h2 h3
    obtain ⟨N, rfl⟩ := pos_fuel h2
    have hx : x < g.length := by omega
    have hz : (x : Int) < (g.length : Int) := by omega
    obtain ⟨⟨b1, b2⟩, b3⟩ := hg _ (List.getElem_mem hx)
    obtain ⟨k, hk⟩ : ∃ k : Nat, g[x] = k := ⟨(g[x]).toNat, by omega⟩
    rw [hk] at b1 b2 b3
    have hkl : k < l.length := by omega
    have hd := (Dec_eq 100 ((a : Int) + 1) (by omega) (by omega) (by omega))
    have hnm := nm12 hv k hkl
    have e1 : (Lib.itoa ((a : Int) + 1) ++ [46, 32] ++ (l[k]).name) = tx l (k : Int) := by unfold tx; rw [gR_at l k hkl, b3]
    rw [drop_cons _ x hx]
    simp only [i_RankText_l2, hz, decide_true, cond_true, idx_lt _ x hx, Option.bind_some, hd.2.1, hk, idx_lt l k hkl, List.map_cons]
    have l1 := hd.2.2.1
    rw [cat_some _ _ (by simp; unfold LIM; omega), Option.bind_some, cat_some _ _ (by simp; unfold LIM; omega), Option.bind_some, e1, app_some _ _ (by simp; unfold LIM; omega), Option.bind_some, w64_nat x (by omega), ih (x + 1) N _ (by omega) (by omega) (by simp; omega)]
    simp
theorem rt_i1 (kj : List Str → Option Str) : ∀ (B A : List (List Int)) (o : List Str) (N : Nat), grp l = A ++ B → B.length + 150 < N → o.length = A.flatten.length → i_RankText_l1 kj l (tiesOf 0 (A ++ B)) N o (A.length : Int) = kj (o ++ B.flatten.map (tx l)) := by
  have hn := vR_len hv
  obtain ⟨g3, g4⟩ := grp_lens hn
  intro B
  induction B with
  | nil =>
    intro A o N h0 h3 h4
    obtain ⟨N, rfl⟩ := pos_fuel h3
    have hz : ¬ (A.length : Int) < ((tiesOf 0 A).length : Int) := by rw [ties_len]; omega
    rw [List.append_nil]
    simp only [i_RankText_l1, hz, decide_false, cond_false, List.flatten_nil, List.map_nil, List.append_nil]
  | cons g B ih =>
    intro A o N h0 h3 h4
    obtain ⟨N, rfl⟩ := pos_fuel h3
    simp only [List.length_cons] at h3
    have q1 := g3
    have q2 := g4
    rw [h0] at q1 q2
    simp only [List.flatten_append, List.flatten_cons, List.length_append, List.length_cons] at q1 q2
    have hz : (A.length : Int) < ((tiesOf 0 (A ++ g :: B)).length : Int) := by rw [ties_len]; simp; omega
    have el : (A ++ [g]).length = A.length + 1 := by simp
    have ea : (A ++ [g]).flatten.length = A.flatten.length + g.length := by simp
    have ec : A ++ g :: B = (A ++ [g]) ++ B := by simp
    have hg : ∀ x ∈ g, (0 ≤ x ∧ x < l.length) ∧ cb l x = A.flatten.length := fun x hx => by
      refine ⟨ord_mem l ?_, cb_grp h0 hx⟩
      rw [← grp_flat, h0]
      exact List.mem_flatten.2 ⟨g, by simp, hx⟩
    have t := fun kj => rt_i2 hv kj A.flatten.length g hg (by omega) (by omega) g.length 0 N o (by omega) (by omega) (by omega)
    have i1 := ih (A ++ [g]) (o ++ g.map (tx l)) N (by rw [h0]; simp) (by omega) (by rw [List.length_append, List.length_map, ea]; omega)
    rw [el, ← ec] at i1
    simp only [i_RankText_l1, hz, decide_true, cond_true, withK_n, ties_at, Option.bind_some, w64_nat A.length (by omega)]
    rw [show (0 : Int) = ((0 : Nat) : Int) from rfl, t, List.drop_zero, i1]
    simp
theorem rt_s1 (kj : Str → Option Str) : ∀ (q x N : Nat) (o : Str), x + q = (ord l).length → q + 300 < N → 0 < x → o.length ≤ 50 * x → s_RankText_l1 kj l (ord l) N o (x : Int) = kj (o ++ Lib.joinTail [44, 32] (((ord l).drop x).map (tx l))) := by
  have hn := vR_len hv
  have hol := ord_len l
  intro q
  induction q with
  | zero =>
    intro x N o h1 h2 h3 h4
    obtain ⟨N, rfl⟩ := pos_fuel h2
    have hz : ¬ (x : Int) < ((ord l).length : Int) := by omega
    rw [List.drop_eq_nil_of_le (by omega)]
    simp [s_RankText_l1, hz, Lib.joinTail]
  | succ q ih =>
    intro x N o h1 h2 h3 h4
    obtain ⟨N, rfl⟩ := pos_fuel h2
    have hx : x < (ord l).length := by omega
    have hz : (x : Int) < ((ord l).length : Int) := by omega
    have hb := ord_mem l (List.getElem_mem hx)
    obtain ⟨k, hk⟩ : ∃ k : Nat, (ord l)[x] = k := ⟨((ord l)[x]).toNat, by omega⟩
    rw [hk] at hb
    have hkl : k < l.length := by omega
    have h40 := cb_40 l (k : Int)
    have hd := (Dec_eq N ((cb l (k : Int) : Int) + 1) (by omega) (by omega) (by omega))
    have hnm := nm12 hv k hkl
    have htl := tx_len hv (k : Int) hb
    have l1 := hd.2.2.1
    have e1 : (Lib.itoa ((cb l (k : Int) : Int) + 1) ++ [46, 32] ++ (l[k]).name) = tx l (k : Int) := by unfold tx; rw [gR_at l k hkl]
    have z0 : decide ((x : Int) > 0) = true := decide_eq_true (by omega)
    rw [drop_cons _ x hx]
    simp only [s_RankText_l1, hz, decide_true, cond_true, withK_n, z0]
    rw [cat_some _ _ (by simp; unfold LIM; omega), Option.bind_some, idx_lt _ x hx, Option.bind_some, hk, place_s l hn k hkl N (by omega), Option.bind_some, hd.1, Option.bind_some, cat_some _ _ (by simp; unfold LIM; omega), Option.bind_some, idx_lt l k hkl, Option.bind_some, cat_some _ _ (by simp; unfold LIM; omega), Option.bind_some, e1, cat_some _ _ (by simp; unfold LIM; omega), Option.bind_some, w64_nat x (by omega), ih (x + 1) N _ (by omega) (by omega) (by omega) (by simp; omega)]
    simp [Lib.joinTail]
end
theorem jt_len {l : List Result} (hv : vR l = true) : ∀ r : List Int, (∀ x ∈ r, 0 ≤ x ∧ x < l.length) → (Lib.joinTail [44, 32] (r.map (tx l))).length ≤ 42 * r.length
  | [], _ => by simp [Lib.joinTail]
  | x :: r, h => by
    have h1 := tx_len hv x (h x List.mem_cons_self)
    have h2 := jt_len hv r fun y hy => h y (List.mem_cons_of_mem _ hy)
    have e : Lib.joinTail [44, 32] ((x :: r).map (tx l)) = ([44, 32] ++ tx l x) ++ Lib.joinTail [44, 32] (r.map (tx l)) := by simp [Lib.joinTail]
    rw [e]
    simp only [List.length_append, List.length_cons, List.length_nil]
    omega
theorem rtext_ok (l : List Result) (hl : l.length ≤ 50) (N : Nat) (hN : 1000 < N) : ∃ t : Str, i_RankText N l = some t ∧ s_RankText N l = some t := by
  obtain ⟨v1, v2⟩ := valid_ok l (by omega) N (by omega)
  unfold i_RankText s_RankText
  rw [v1, v2]
  simp only [Option.bind_some]
  cases hv : vR l with
  | false => exact ⟨[], rfl, rfl⟩
  | true =>
    have hn := vR_len hv
    have hol := ord_len l
    obtain ⟨g1, g2⟩ := ties_ok hn N (by omega)
    have t1 := fun kj => rt_i1 hv kj (grp l) [] [] N rfl (by have := (grp_lens hn).1; omega) rfl
    rw [List.nil_append, List.nil_append, grp_flat] at t1
    refine ⟨Lib.join ((ord l).map (tx l)) [44, 32], ?_, ?_⟩
    · simp only [Bool.not_true, cond_false, withK_n, g1, Option.bind_some]
      rw [show (0 : Int) = (([] : List (List Int)).length : Int) from rfl, t1]
      have hj : joinO ((ord l).map (tx l)) [44, 32] = some (Lib.join ((ord l).map (tx l)) [44, 32]) := by
        unfold joinO
        rw [if_pos]
        refine ⟨by rw [List.length_map, hol]; unfold LIM; omega, ?_⟩
        cases ho : ord l with
        | nil => simp [Lib.join_nil]
        | cons x r =>
          have hx := tx_len hv x (ord_mem l (by rw [ho]; exact List.mem_cons_self))
          have hr := jt_len hv r fun y hy => ord_mem l (by rw [ho]; exact List.mem_cons_of_mem _ hy)
          have hlr : r.length ≤ 40 := by
            have := hol
            rw [ho, List.length_cons] at this; omega
          rw [List.map_cons, Lib.join_cons, List.length_append]
          unfold LIM; omega
      rw [hj]; rfl
    · simp only [Bool.not_true, cond_false, rank_s hn N (by omega), Option.bind_some, withK_n]
      obtain ⟨N, rfl⟩ := pos_fuel hN
      cases ho : ord l with
      | nil => rfl
      | cons x r =>
        have hb := ord_mem l (x := x) (by rw [ho]; exact List.mem_cons_self)
        obtain ⟨k, rfl⟩ : ∃ k : Nat, x = k := ⟨x.toNat, by omega⟩
        have hkl : k < l.length := by omega
        have h40 := cb_40 l (k : Int)
        have hd := (Dec_eq N ((cb l (k : Int) : Int) + 1) (by omega) (by omega) (by omega))
        have hnm := nm12 hv k hkl
        have htl := tx_len hv (k : Int) hb
        have l1 := hd.2.2.1
        have e1 : (Lib.itoa ((cb l (k : Int) : Int) + 1) ++ [46, 32] ++ (l[k]).name) = tx l (k : Int) := by unfold tx; rw [gR_at l k hkl]
        have t2 := rt_s1 hv (fun o => some o) (r.length) 1 N (tx l (k : Int)) (by rw [ho]; simp only [List.length_cons]; omega) (by rw [ho, List.length_cons] at hol; omega) (by omega) (by omega)
        rw [ho] at t2
        have hz : (0 : Int) < ((((k : Int) :: r : List Int)).length : Int) := by simp only [List.length_cons]; omega
        have z0 : decide ((0 : Int) > 0) = false := by decide
        have ei : idx ((k : Int) :: r) 0 = some (k : Int) := rfl
        rw [s_RankText_l1, decide_eq_true hz, cond_true, withK_n, z0, cond_false]
        simp only [ei, Option.bind_some]
        rw [place_s l hn k hkl N (by omega), Option.bind_some, hd.1, Option.bind_some, cat_some _ _ (by simp; unfold LIM; omega), Option.bind_some, idx_lt l k hkl, Option.bind_some, cat_some _ _ (by simp; unfold LIM; omega), Option.bind_some, e1, cat_some _ _ (by simp; unfold LIM; omega), Option.bind_some, show w64 ((0 : Int) + 1) = ((1 : Nat) : Int) from w64_nat 0 (by omega), List.nil_append, t2, List.map_cons, Lib.join_cons]
        rfl
end Go.Proofs.YtikkolkickclhaaDoor
