/-
  Plain lemmas on these functions. No conditions but those that each states.
-/
import Derived.Test.YtikkolkickclhaaDoorFnRankingsP17
namespace Go.Proofs.YtikkolkickclhaaDoor
set_option linter.unusedVariables false
set_option linter.unusedSimpArgs false
/-! Draws of contests, and the law of rankings. -/
theorem dHeatsOf (code : List UInt8) (N : Nat) (hN : 100 < N) : ∃ v, s_DrawHeatsOf N code = some v ∧ v.1.length ≤ 41 := by
  unfold s_DrawHeatsOf
  rw [fromA, Option.bind_some]
  have h0 : SrcAt code 10 ⟨code, 0, 0⟩ := ⟨rfl, by show (0 : Int) ≤ 0; omega, by show (0 : Int) ≤ 10; omega⟩
  refine bindE (dRBent h0 (by omega) N hN) fun v1 h1 => ?_
  refine bindE (oneA (hi := 70) 8 ⟨rfl, h1.1.2⟩ (by omega)) fun v2 h2 => ?_
  refine condE (fun _ => ?_) fun _ => ?_
  · refine bindE (amongA (hi := 72) _ (by decide) ⟨rfl, h2.2⟩ (by omega)) fun v3 h3 => ?_
    exact ⟨_, rfl, h1.2⟩
  · refine bindE (pickA (hi := 72) 4 ⟨rfl, h2.2⟩ (by omega)) fun v3 h3 => ?_
    exact ⟨_, rfl, h1.2⟩
theorem dQual (code : List UInt8) (N : Nat) (hN : 100 < N) : ∃ v, s_DrawQualifyFrom N code = some v ∧ v.1.length ≤ 41 ∧ v.2.1.length ≤ 42 := by
  unfold s_DrawQualifyFrom
  rw [fromA, Option.bind_some]
  have h0 : SrcAt code 10 ⟨code, 0, 0⟩ := ⟨rfl, by show (0 : Int) ≤ 0; omega, by show (0 : Int) ≤ 10; omega⟩
  refine bindE (dRBent h0 (by omega) N hN) fun v1 h1 => ?_
  refine bindE (dHeats (hi := 70) (s := ⟨code, v1.2.at_, v1.2.seed⟩) ⟨rfl, h1.1.2⟩ (by omega) v1.1 h1.2 N hN) fun v2 h2 => ?_
  refine bindE (pickA (hi := 170) 4 ⟨rfl, h2.1.2⟩ (by omega)) fun v3 h3 => ?_
  simp only [withK_n]
  have tail : ∀ (a sd each : Int), SrcAt code 180 ⟨code, a, sd⟩ → ∃ r, ((s_l00Src_one (L00Src.mk code a sd) 12).bind fun r26 =>
      bif r26.1 then
      (s_l00Src_among (L00Src.mk code r26.2.at_ r26.2.seed) [(-1), 0, 40, 41]).bind fun r30 =>
      some (v1.1, v2.1, each, r30.1)
      else
      (s_l00Src_pick (L00Src.mk code r26.2.at_ r26.2.seed) 4).bind fun r32 =>
      some (v1.1, v2.1, each, r32.1)) = some r ∧ r.1.length ≤ 41 ∧ r.2.1.length ≤ 42 := by
    intro a sd each ha
    refine bindE (oneA (hi := 180) 12 ha (by omega)) fun v4 h4 => ?_
    refine condE (fun _ => ?_) fun _ => ?_
    · refine bindE (amongA (hi := 182) _ (by decide) ⟨rfl, h4.2⟩ (by omega)) fun v5 h5 => ?_
      exact ⟨_, rfl, h1.2, h2.2⟩
    · refine bindE (pickA (hi := 182) 4 ⟨rfl, h4.2⟩ (by omega)) fun v5 h5 => ?_
      exact ⟨_, rfl, h1.2, h2.2⟩
  refine bindE (oneA (hi := 172) 12 ⟨rfl, h3.1.2⟩ (by omega)) fun v4 h4 => ?_
  refine condE (fun _ => ?_) fun _ => ?_
  · refine bindE (amongA (hi := 174) _ (by decide) ⟨rfl, h4.2⟩ (by omega)) fun v5 h5 => ?_
    exact tail _ _ _ ⟨rfl, h5.1.2.1, by have := h5.1.2.2; show v5.2.at_ ≤ 180; omega⟩
  · exact tail _ _ _ ⟨rfl, h4.2.1, by have := h4.2.2; show v4.2.at_ ≤ 180; omega⟩
theorem dBest (code : List UInt8) (N : Nat) (hN : 200 < N) : ∃ R, s_DrawBestOfRounds N code = some R ∧ R.length ≤ 11 ∧ ∀ l ∈ R, l.length ≤ 41 := by
  unfold s_DrawBestOfRounds
  rw [fromA, Option.bind_some]
  have h0 : SrcAt code 10 ⟨code, 0, 0⟩ := ⟨rfl, by show (0 : Int) ≤ 0; omega, by show (0 : Int) ≤ 10; omega⟩
  refine bindE (pickA (hi := 10) 4 h0 (by omega)) fun v1 h1 => ?_
  simp only [withK_n]
  have key : ∀ (q N : Nat) (a sd : Int) (l : List (List Result)), q + 150 < N → l.length + q ≤ 11 → (∀ x ∈ l, x.length ≤ 41) → SrcAt code (1000 - 80 * q) ⟨code, a, sd⟩ → ∃ R, s_DrawBestOfRounds_l1 (fun l20 => some l20) code N a sd l (q : Int) = some R ∧ R.length ≤ 11 ∧ ∀ l ∈ R, l.length ≤ 41 := by
    intro q
    induction q with
    | zero =>
      intro N a sd l g1 g2 g3 g4
      obtain ⟨N, rfl⟩ := pos_fuel g1
      have hz : ¬ ((0 : Nat) : Int) > 0 := by omega
      simp only [s_DrawBestOfRounds_l1, hz, decide_false, cond_false]
      exact ⟨l, rfl, by omega, g3⟩
    | succ q ih =>
      intro N a sd l g1 g2 g3 g4
      obtain ⟨N, rfl⟩ := pos_fuel g1
      have hz : ((q + 1 : Nat) : Int) > 0 := by omega
      have hw : w64 (((q + 1 : Nat) : Int) - 1) = (q : Int) := by rw [w64_id (by omega) (by omega)]; omega
      have hl : ∀ y : List Result, y.length ≤ 41 → ∀ x ∈ l ++ [y], x.length ≤ 41 := fun y hy x hx => by
        rcases List.mem_append.1 hx with hx | hx
        · exact g3 x hx
        · rw [List.mem_singleton.1 hx]; exact hy
      simp only [s_DrawBestOfRounds_l1, hz, decide_true, cond_true, withK_n, hw]
      refine bindE (oneA (hi := 1000 - 80 * ((q + 1 : Nat) : Int)) 6 g4 (by omega)) fun v2 h2 => ?_
      have hs : SrcAt code (1000 - 80 * ((q + 1 : Nat) : Int) + 2) (L00Src.mk code v2.2.at_ v2.2.seed) := ⟨rfl, h2.2⟩
      refine condE (fun _ => ?_) fun _ => ?_
      · refine bindE (dRBent hs (by omega) N (by omega)) fun v3 h3 => ?_
        refine appE (by simp; unfold LIM; omega) ?_
        exact ih N _ _ _ (by omega) (by simp; omega) (hl _ h3.2) ⟨rfl, h3.1.2.1, by have := h3.1.2.2; show v3.2.at_ ≤ _; omega⟩
      · refine bindE (dRDraw hs (by omega) N (by omega)) fun v3 h3 => ?_
        refine appE (by simp; unfold LIM; omega) ?_
        exact ih N _ _ _ (by omega) (by simp; omega) (hl _ h3.2) ⟨rfl, h3.1.2.1, by have := h3.1.2.2; show v3.2.at_ ≤ _; omega⟩
  refine bindE (oneA (hi := 12) 20 ⟨rfl, h1.1.2⟩ (by omega)) fun v2 h2 => ?_
  refine condE (fun _ => ?_) fun _ => ?_
  · refine bindE (pickA (hi := 14) 2 ⟨rfl, h2.2⟩ (by omega)) fun v3 h3 => ?_
    have hv := h3.2.2 (by omega)
    have hv0 := h3.2.1
    have e : w64 (10 + v3.1) = ((10 + v3.1.toNat : Nat) : Int) := by rw [w64_id (by omega) (by omega)]; omega
    rw [e]
    exact key _ N _ _ [] (by omega) (by simp; omega) (fun _ h => by cases h) ⟨rfl, h3.1.2.1, by have := h3.1.2.2; show v3.2.at_ ≤ _; omega⟩
  · have hv := h1.2.2 (by omega)
    have hv0 := h1.2.1
    have e : v1.1 = ((v1.1.toNat : Nat) : Int) := by omega
    rw [e]
    exact key _ N _ _ [] (by omega) (by simp; omega) (fun _ h => by cases h) ⟨rfl, h2.2.1, by have := h2.2.2; show v2.2.at_ ≤ _; omega⟩
theorem f6_l1 (l : List Int) (hl : l.length ≤ 100) (kj : Option Bool) : ∀ (q x N : Nat), x + q = l.length → q < N → w_f6ints_l1 kj l l N (x : Int) = kj := by
  intro q
  induction q with
  | zero =>
    intro x N hx hN
    obtain ⟨N, rfl⟩ := pos_fuel hN
    rw [w_f6ints_l1, decide_eq_false (by omega : ¬ (x : Int) < (l.length : Int)), cond_false]
  | succ q ih =>
    intro x N hx hN
    obtain ⟨N, rfl⟩ := pos_fuel hN
    have hlt : x < l.length := by omega
    have hne : (l[x] != l[x]) = false := by simp
    rw [w_f6ints_l1, decide_eq_true (by omega : (x : Int) < (l.length : Int)), cond_true, idx_lt l x hlt, Option.bind_some, Option.bind_some, hne, cond_false, w64_nat x (by omega)]
    exact ih (x + 1) N (by omega) (by omega)
theorem ints_ok (l : List Int) (hl : l.length ≤ 100) (N : Nat) (hN : 200 < N) : w_f6ints N l l = some true := by
  unfold w_f6ints
  have hne : ((l.length : Int) != (l.length : Int)) = false := by simp
  rw [hne, cond_false, withK_n]
  exact f6_l1 l hl (some true) l.length 0 N (by omega) (by omega)
theorem sr_ok (l : List Result) (hl : l.length ≤ 2000) (N : Nat) (hN : 2100 < N) : s_SameResults N l l = some true := by
  have loop : ∀ (q x N : Nat), x + q = l.length → q < N → s_SameResults_l1 (some true) l l N (x : Int) = some true := by
    intro q
    induction q with
    | zero =>
      intro x N hx hN
      obtain ⟨N, rfl⟩ := pos_fuel hN
      rw [s_SameResults_l1, decide_eq_false (by omega : ¬ (x : Int) < (l.length : Int)), cond_false]
    | succ q ih =>
      intro x N hx hN
      obtain ⟨N, rfl⟩ := pos_fuel hN
      have hlt : x < l.length := by omega
      have hb : Result.beq l[x] l[x] = true := by unfold Result.beq; simp
      rw [s_SameResults_l1, decide_eq_true (by omega : (x : Int) < (l.length : Int)), cond_true, idx_lt l x hlt, Option.bind_some, Option.bind_some, hb, Bool.not_true, cond_false, w64_nat x (by omega)]
      exact ih (x + 1) N (by omega) (by omega)
  unfold s_SameResults
  have hne : ((l.length : Int) != (l.length : Int)) = false := by simp
  rw [hne, cond_false, withK_n]
  exact loop l.length 0 N (by omega) (by omega)
/-! The law's own loops. -/
theorem wr_l2 (l : List Result) (r25 : List Int × Int) (h25 : r25.1 = plL l) (r52 : List (List Int) × Int) (j : Nat) (g : List Int) (hj : idx r52.1 (j : Int) = some g) (hg : g.length ≤ 100) (hb : ∀ x ∈ g, 0 ≤ x ∧ x < l.length) (he : ∀ x ∈ g, ∀ y ∈ g, cb l x = cb l y) (kj : Option Bool) : ∀ (q x N : Nat), x + q = g.length → q < N → w_FnRankings_l2 kj r25 r52 (j : Int) N (x : Int) = kj := by
  intro q
  induction q with
  | zero =>
    intro x N hx hN
    obtain ⟨N, rfl⟩ := pos_fuel hN
    have hz : ¬ (x : Int) < (g.length : Int) := by omega
    simp only [w_FnRankings_l2, hj, Option.bind_some, hz, decide_false, cond_false]
  | succ q ih =>
    intro x N hx hN
    obtain ⟨N, rfl⟩ := pos_fuel hN
    have hlt : x < g.length := by omega
    have hz : (x : Int) < (g.length : Int) := by omega
    have h0 : 0 < g.length := by omega
    have e0 : idx g 0 = some g[0] := idx_lt g 0 h0
    have e1 := plL_i l g[x] (hb _ (List.getElem_mem hlt))
    have e2 := plL_i l g[0] (hb _ (List.getElem_mem h0))
    have e3 := he _ (List.getElem_mem hlt) _ (List.getElem_mem h0)
    rw [← h25] at e1 e2
    have hne : ∀ a : Int, ((a + 1) != (a + 1)) = false := fun a => by simp
    simp only [w_FnRankings_l2, hj, Option.bind_some, hz, decide_true, cond_true, idx_lt g x hlt, e0, e1, e2, w64_nat x (by omega)]
    rw [e3, hne, cond_false]
    exact ih (x + 1) N (by omega) (by omega)
theorem wr_l1 (l : List Result) (r25 : List Int × Int) (r48 r52 : List (List Int) × Int) (h48 : r48.1 = r52.1) (h52 : r52.1.length ≤ 100) (hG : ∀ g ∈ r52.1, r25.1 = plL l ∧ 2 ≤ g.length ∧ g.length ≤ 100 ∧ (∀ x ∈ g, 0 ≤ x ∧ x < l.length) ∧ ∀ x ∈ g, ∀ y ∈ g, cb l x = cb l y) (kj : Option Bool) : ∀ (q x N : Nat), x + q = r52.1.length → q + 300 < N → w_FnRankings_l1 kj r25 r48 r52 N (x : Int) = kj := by
  intro q
  induction q with
  | zero =>
    intro x N hx hN
    obtain ⟨N, rfl⟩ := pos_fuel hN
    have hz : ¬ (x : Int) < (r52.1.length : Int) := by omega
    simp only [w_FnRankings_l1, hz, decide_false, cond_false]
  | succ q ih =>
    intro x N hx hN
    obtain ⟨N, rfl⟩ := pos_fuel hN
    have hlt : x < r52.1.length := by omega
    have hz : (x : Int) < (r52.1.length : Int) := by omega
    obtain ⟨a1, a2, a3, a4, a5⟩ := hG _ (List.getElem_mem hlt)
    have hix := idx_lt r52.1 x hlt
    have hd : decide (((r52.1[x]).length : Int) < 2) = false := decide_eq_false (by omega)
    simp only [w_FnRankings_l1, hz, decide_true, cond_true, withK_n, h48, hix, Option.bind_some, ints_ok _ a3 N (by omega), Bool.not_true, orO_false, hd, cond_false, w64_nat x (by omega)]
    rw [show (0 : Int) = ((0 : Nat) : Int) from rfl, wr_l2 l r25 a1 r52 x r52.1[x] hix a3 a4 a5 _ (r52.1[x]).length 0 N (by omega) (by omega)]
    exact ih (x + 1) N (by omega) (by omega)
theorem wr_l3 (r7 : List Result × Int) (hn : r7.1.length ≤ 40) (r19 r25 : List Int × Int) (h19 : r19.1 = ord r7.1) (h25 : r25.1 = plL r7.1) (kj : Option Bool) : ∀ (q x N : Nat), x + 1 + q = (ord r7.1).length → q < N → w_FnRankings_l3 kj r7 r19 r25 N ((x + 1 : Nat) : Int) = kj := by
  have hol := ord_len r7.1
  intro q
  induction q with
  | zero =>
    intro x N hx hN
    obtain ⟨N, rfl⟩ := pos_fuel hN
    have hz : ¬ ((x + 1 : Nat) : Int) < ((ord r7.1).length : Int) := by omega
    simp only [w_FnRankings_l3, h19, hz, decide_false, cond_false]
  | succ q ih =>
    intro x N hx hN
    obtain ⟨N, rfl⟩ := pos_fuel hN
    have hlt : x + 1 < (ord r7.1).length := by omega
    have hlt0 : x < (ord r7.1).length := by omega
    have hz : ((x + 1 : Nat) : Int) < ((ord r7.1).length : Int) := by omega
    have e1 : w64 (((x + 1 : Nat) : Int) - 1) = (x : Int) := by rw [w64_id (by omega) (by omega)]; omega
    have b1 := ord_mem r7.1 (List.getElem_mem hlt)
    have b0 := ord_mem r7.1 (List.getElem_mem hlt0)
    have hs : bt r7.1 (ord r7.1)[x + 1] (ord r7.1)[x] = false := by
      have h := ord_srt r7.1
      unfold Srt at h
      exact (List.pairwise_iff_getElem.1 h) x (x + 1) hlt0 hlt (by omega)
    have hcl := cb_le hs
    have hca := cb_at r7.1 (x + 1) hlt
    have p1 := plL_i r7.1 _ b1
    have p0 := plL_i r7.1 _ b0
    rw [← h25] at p1 p0
    obtain ⟨i, hi⟩ : ∃ i : Nat, (ord r7.1)[x] = i := ⟨((ord r7.1)[x]).toNat, by omega⟩
    obtain ⟨j, hj⟩ : ∃ j : Nat, (ord r7.1)[x + 1] = j := ⟨((ord r7.1)[x + 1]).toNat, by omega⟩
    rw [hi] at b0 hs hcl p0
    rw [hj] at b1 hs hcl hca p1
    have hil : i < r7.1.length := by omega
    have hjl : j < r7.1.length := by omega
    unfold bt at hs
    rw [gR_at _ i hil, gR_at _ j hjl, btr_not] at hs
    have d1 : decide ((r7.1[i]).net < (r7.1[j]).net) = false := decide_eq_false (by omega)
    have d2 : ((r7.1[i]).net == (r7.1[j]).net && decide ((r7.1[i]).errors > (r7.1[j]).errors)) = false := by
      rw [Bool.and_eq_false_iff]
      by_cases h : (r7.1[i]).net = (r7.1[j]).net
      · right; exact decide_eq_false (by omega)
      · left; rw [beq_eq_false_iff_ne]; exact h
    have d3 : decide (((cb r7.1 (j : Int) : Int) + 1) < ((cb r7.1 (i : Int) : Int) + 1)) = false := decide_eq_false (by omega)
    have d4 : decide (((cb r7.1 (j : Int) : Int) + 1) > ((x + 1 + 1 : Nat) : Int)) = false := decide_eq_false (by omega)
    simp only [w_FnRankings_l3, h19, hz, decide_true, cond_true, e1, idx_lt _ (x + 1) hlt, idx_lt _ x hlt0, hi, hj, idx_lt r7.1 i hil, idx_lt r7.1 j hjl, Option.bind_some, andO_some, orO_some, d1, d2, p0, p1, d3, w64_nat (x + 1) (by omega), d4, Bool.or_self, cond_false]
    exact ih (x + 1) N (by omega) (by omega)
/-- how often each comes among those from a place on -/
theorem wr_l4 (r7 : List Result × Int) (r13 : List Int × Int) (h : Nat) (h7 : r7.2 = h) (hb : ∀ v ∈ r13.1, ∃ c : Nat, v = c ∧ c < h) (hl : r13.1.length ≤ 100) (kj : List Int → Option Bool) : ∀ (q x N : Nat) (C : List Int), x + q = r13.1.length → q < N → C.length = h → (∀ (c : Nat) (hc : c < C.length), C[c] = ((r13.1.take x).countP (fun v => v == (c : Int)) : Nat)) →
    ∃ C' : List Int, w_FnRankings_l4 kj r7 r13 N C (x : Int) = kj C' ∧ C'.length = h ∧ ∀ (c : Nat) (hc : c < C'.length), C'[c] = (r13.1.countP (fun v => v == (c : Int)) : Nat) := by
  intro q
  induction q with
  | zero =>
    intro x N C h1 h2 h3 h4
    obtain ⟨N, rfl⟩ := pos_fuel h2
    have hz : ¬ (x : Int) < (r13.1.length : Int) := by omega
    rw [List.take_of_length_le (by omega)] at h4
    exact ⟨C, by simp only [w_FnRankings_l4, hz, decide_false, cond_false], h3, h4⟩
  | succ q ih =>
    intro x N C h1 h2 h3 h4
    obtain ⟨N, rfl⟩ := pos_fuel h2
    have hx : x < r13.1.length := by omega
    have hz : (x : Int) < (r13.1.length : Int) := by omega
    obtain ⟨c, hc, hch⟩ := hb _ (List.getElem_mem hx)
    have d1 : decide ((c : Int) < 0) = false := decide_eq_false (by omega)
    have d2 : decide ((c : Int) ≥ (h : Int)) = false := decide_eq_false (by omega)
    have hcC : c < C.length := by omega
    have hcx := h4 c hcC
    have hle := List.countP_le_length (p := fun v => v == (c : Int)) (l := r13.1.take x)
    rw [List.length_take] at hle
    have e9 : w64 (C[c] + 1) = (((r13.1.take x).countP (fun v => v == (c : Int)) + 1 : Nat) : Int) := by rw [hcx, w64_nat _ (by omega)]
    obtain ⟨C', i1, i2, i3⟩ := ih (x + 1) N (C.set c (((r13.1.take x).countP (fun v => v == (c : Int)) + 1 : Nat) : Int)) (by omega) (by omega) (by rw [List.length_set]; exact h3) (fun d hd => by
      rw [List.length_set] at hd
      rw [List.take_succ_eq_append_getElem hx, List.countP_append, List.countP_singleton, hc]
      by_cases e : d = c
      · subst e
        rw [List.getElem_set_self]; simp
      · have hne : ((c : Int) == (d : Int)) = false := by rw [beq_eq_false_iff_ne]; omega
        rw [List.getElem_set_ne (fun q => e q.symm), hne, h4 d hd]; simp)
    refine ⟨C', ?_, i2, i3⟩
    simp only [w_FnRankings_l4, hz, decide_true, cond_true, idx_lt _ x hx, hc, h7, Option.bind_some, d1, d2, orO_false, cond_false, idx_lt C c hcC, e9, w64_nat x (by omega), Int.toNat_natCast]
    exact i1
theorem wr_l6 (C : List Int) (hC : C.length ≤ 100) (hev : ∀ (c d : Nat) (h1 : c < C.length) (h2 : d < C.length), 0 ≤ C[d] ∧ C[d] ≤ 1000 ∧ C[c] ≤ C[d] + 1) (kj : Option Bool) (i : Nat) (hi : i < C.length) : ∀ (q x N : Nat), x + q = C.length → q < N → w_FnRankings_l6 kj C (i : Int) N (x : Int) = kj := by
  intro q
  induction q with
  | zero =>
    intro x N hx hN
    obtain ⟨N, rfl⟩ := pos_fuel hN
    have hz : ¬ (x : Int) < (C.length : Int) := by omega
    simp only [w_FnRankings_l6, hz, decide_false, cond_false]
  | succ q ih =>
    intro x N hx hN
    obtain ⟨N, rfl⟩ := pos_fuel hN
    have hlt : x < C.length := by omega
    have hz : (x : Int) < (C.length : Int) := by omega
    obtain ⟨a1, a2, a3⟩ := hev i x hi hlt
    have d : decide (C[i] > w64 (C[x] + 1)) = false := by rw [w64_id (by omega) (by omega)]; exact decide_eq_false (by omega)
    simp only [w_FnRankings_l6, hz, decide_true, cond_true, idx_lt C i hi, idx_lt C x hlt, Option.bind_some, d, cond_false, w64_nat x (by omega)]
    exact ih (x + 1) N (by omega) (by omega)
theorem wr_l5 (C : List Int) (hC : C.length ≤ 100) (hev : ∀ (c d : Nat) (h1 : c < C.length) (h2 : d < C.length), 0 ≤ C[d] ∧ C[d] ≤ 1000 ∧ C[c] ≤ C[d] + 1) (kj : Option Bool) : ∀ (q x N : Nat), x + q = C.length → q + 150 < N → w_FnRankings_l5 kj C N (x : Int) = kj := by
  intro q
  induction q with
  | zero =>
    intro x N hx hN
    obtain ⟨N, rfl⟩ := pos_fuel hN
    have hz : ¬ (x : Int) < (C.length : Int) := by omega
    simp only [w_FnRankings_l5, hz, decide_false, cond_false]
  | succ q ih =>
    intro x N hx hN
    obtain ⟨N, rfl⟩ := pos_fuel hN
    have hlt : x < C.length := by omega
    have hz : (x : Int) < (C.length : Int) := by omega
    simp only [w_FnRankings_l5, hz, decide_true, cond_true, withK_n, w64_nat x (by omega)]
    rw [show (0 : Int) = ((0 : Nat) : Int) from rfl, wr_l6 C hC hev _ x hlt C.length 0 N (by omega) (by omega)]
    exact ih (x + 1) N (by omega) (by omega)
theorem td_good {l : List Result} (hv : vR l = true) : ∀ g ∈ tdL (grp l), 2 ≤ g.length ∧ g.length ≤ 100 ∧ (∀ x ∈ g, 0 ≤ x ∧ x < l.length) ∧ ∀ x ∈ g, ∀ y ∈ g, cb l x = cb l y := by
  intro g hg
  unfold tdL at hg
  rw [List.mem_filter] at hg
  obtain ⟨h1, h2⟩ := hg
  have h2 := of_decide_eq_true h2
  obtain ⟨A, B, hAB⟩ := List.append_of_mem h1
  have hn := vR_len hv
  have hfl := (grp_lens hn).2
  rw [hAB] at hfl
  simp only [List.flatten_append, List.flatten_cons, List.length_append] at hfl
  refine ⟨h2, by omega, fun x hx => ord_mem l ?_, fun x hx y hy => by rw [cb_grp hAB hx, cb_grp hAB hy]⟩
  rw [← grp_flat]
  exact List.mem_flatten.2 ⟨g, h1, hx⟩
theorem law_FnRankings (code : List UInt8) (hlen : wfL wfByte code) : ∃ N, w_FnRankings N code = some true := by
  have _ := hlen
  refine ⟨10000, ?_⟩
  suffices h : ∀ N, 9000 < N → w_FnRankings N code = some true from h 10000 (by omega)
  intro N hN
  unfold w_FnRankings w_f6big
  rw [Option.bind_some]
  cases decide ((code.length : Int) > 4096) with
  | true => rfl
  | false =>
    rw [cond_false]
    obtain ⟨r7, d1, d2⟩ := dHeatsOf code N (by omega)
    obtain ⟨r28, e1, e2, e3⟩ := dQual code N (by omega)
    obtain ⟨R, f1, f2, f3⟩ := dBest code N (by omega)
    obtain ⟨ho, hc, a1, a2, a3, a4⟩ := heats_ok r7.1 (by omega) r7.2 N (by omega)
    obtain ⟨ro, rc, b1, b2, b3, b4⟩ := ranks_ok r7.1 (by omega) N (by omega)
    obtain ⟨po, pc, c1, c2, c3, c4⟩ := places_ok r7.1 (by omega) N (by omega)
    obtain ⟨qo, qc, g1, g2, g3, g4⟩ := qual_ok r28.1 (by omega) r28.2.1 (by omega) r28.2.2.1 r28.2.2.2 N (by omega)
    obtain ⟨bo, bc, h1, h2, h3⟩ := best_ok R (fun l hl => by have := f3 l hl; omega) (by omega) N (by omega)
    obtain ⟨to, tc, i1, i2, i3, i4⟩ := tied_ok r7.1 (by omega) N (by omega)
    obtain ⟨t, j1, j2⟩ := rtext_ok r7.1 (by omega) N (by omega)
    obtain ⟨v1, v2⟩ := valid_ok r7.1 (by omega) N (by omega)
    have v3 : s_ValidResults N r7.1 = some (vR r7.1) := by unfold s_ValidResults; rw [v2]; rfl
    have k1 := ints_ok ho (by omega) N (by omega)
    have k2 := ints_ok ro (by omega) N (by omega)
    have k3 := ints_ok po (by omega) N (by omega)
    have k4 := ints_ok qo (by omega) N (by omega)
    have k5 := sr_ok bo (by omega) N (by omega)
    have bn : ∀ x : Int, (x != x) = false := fun x => by simp
    have bs : ∀ x : Str, (x != x) = false := fun x => by simp
    have bb : ∀ x : Bool, (x != x) = false := fun x => by simp
    rw [d1, Option.bind_some]
    simp only [a1, a2, b1, b2, c1, c2, e1, g1, g2, f1, h1, h2, i1, i2, j1, j2, v1, v3, k1, k2, k3, k4, k5, Option.bind_some, bn, bs, bb, orO_some, Bool.not_true, Bool.or_self, cond_false, withK_n]
    have l1 := fun kj => wr_l1 r7.1 (po, pc) (to, tc) (to, tc) rfl (by show to.length ≤ 100; omega) (fun g hg => by
      rcases i4 with h | ⟨hv, h⟩
      · simp only [h] at hg; cases hg
      · simp only [h] at hg
        exact ⟨c4 hv, td_good hv g hg⟩) kj to.length 0 N (by show 0 + to.length = to.length; omega) (by omega)
    rw [show ((0 : Nat) : Int) = 0 from rfl] at l1
    rw [l1]
    have hq : decide ((qo.length : Int) > (r28.1.length : Int)) = false := decide_eq_false (by omega)
    rw [hq, andO_some, Bool.and_false, Option.bind_some, cond_false]
    have l3 : ∀ kj : Option Bool, (bif (rc == 0) then w_FnRankings_l3 kj r7 (ro, rc) (po, pc) N 1 else kj) = kj := fun kj => by
      cases hr : (rc == 0) with
      | false => rfl
      | true =>
        obtain ⟨hv, hro⟩ := b4 (by simpa using hr)
        have hn := vR_len hv
        rw [cond_true]
        cases hl : (ord r7.1).length with
        | zero =>
          obtain ⟨N, rfl⟩ := pos_fuel hN
          have hz : ¬ (1 : Int) < (ro.length : Int) := by rw [hro, hl]; simp
          simp only [w_FnRankings_l3, hz, decide_false, cond_false]
        | succ n =>
          have hol := ord_len r7.1
          exact wr_l3 r7 hn (ro, rc) (po, pc) hro (c4 hv) kj n 0 N (by omega) (by omega)
    rw [l3]
    by_cases hz : hc = 0
    · obtain ⟨hv, h, e, p0, p10, hho⟩ := a4 hz
      have z : (hc != 0) = false := by rw [hz]; rfl
      have hn := vR_len hv
      rw [z, cond_false, e, mk_some _ _ (by unfold LIM; omega), Option.bind_some]
      have hbd : ∀ v ∈ ho, ∃ c : Nat, v = c ∧ c < h := by rw [hho]; exact htL_bd r7.1 p0
      obtain ⟨C', m1, m2, m3⟩ := wr_l4 r7 (ho, hc) h e hbd (by show ho.length ≤ 100; omega) (fun l213 => w_FnRankings_l5 (some true) l213 N 0) ho.length 0 N (List.replicate h 0) (by show 0 + ho.length = ho.length; omega) (by omega) (by simp) (fun c hc => by simp)
      rw [show ((0 : Nat) : Int) = 0 from rfl] at m1
      rw [m1]
      have hcnt : ∀ (c : Nat) (hc : c < C'.length), C'[c] = (YtikkolkickclhaaDoor.hc h c r7.1.length : Nat) := fun c hc => by
        rw [m3 c hc]
        show ((ho.countP fun v => v == (c : Int) : Nat) : Int) = _
        rw [hho, htL_cnt]
      have hle : ∀ c : Nat, YtikkolkickclhaaDoor.hc h c r7.1.length ≤ r7.1.length := fun c => by
        have := htL_cnt r7.1 h c
        have h2 := List.countP_le_length (p := fun v => v == (c : Int)) (l := htL r7.1 h)
        rw [this, htL_len] at h2
        exact h2
      have l5 := wr_l5 C' (by omega) (fun c d h1 h2 => by
        rw [hcnt c h1, hcnt d h2]
        have := hc_even p0 (c := c) (d := d) (by omega) (by omega) r7.1.length
        have h3 := hle d
        omega) (some true) C'.length 0 N (by omega) (by omega)
      exact l5
    · have z : (hc != 0) = true := by simpa using hz
      rw [z]; rfl
end Go.Proofs.YtikkolkickclhaaDoor
