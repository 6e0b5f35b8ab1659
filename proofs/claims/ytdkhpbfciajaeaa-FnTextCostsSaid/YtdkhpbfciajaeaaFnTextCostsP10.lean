/-
  Plain lemmas on these functions. No conditions but those that each states.
-/
import Derived.Test.YtdkhpbfciajaeaaFnTextCostsP9
namespace Go.Proofs.Ytdkhpbfciajaeaa
set_option linter.unusedVariables false
set_option linter.unusedSimpArgs false
/-! Hands, fingers, turns, and the law. -/
def fg (bd : List Place) (a : Int) : Int := match idx bd a with
  | some p => p.finger
  | none => 0
theorem fg_ok (bd : List Place) (hb : BL bd) (a : Int) (ha : 0 ≤ a ∧ a < bd.length) : (∃ p, idx bd a = some p ∧ p.finger = fg bd a ∧ p.effort = ef bd a) ∧ 0 ≤ fg bd a ∧ fg bd a ≤ 7 := by
  have e1 := idx_int bd a ha.1 ha.2
  have h1 := hb.2.2 _ (List.getElem_mem (by omega : a.toNat < bd.length))
  unfold fg ef
  rw [e1]
  exact ⟨⟨_, rfl, rfl, rfl⟩, by show 0 ≤ (bd[a.toNat]'(by omega)).finger; omega, by show (bd[a.toNat]'(by omega)).finger ≤ 7; omega⟩
def lf (bd : List Place) (a : Int) : Bool := decide (fg bd a ≤ 3)
/-- strokes of the left hand -/
def lfs (bd : List Place) : List Int → Int
  | [] => 0
  | p :: r => (if lf bd p then 1 else 0) + lfs bd r
theorem lfs_rng (bd : List Place) : ∀ ps : List Int, 0 ≤ lfs bd ps ∧ lfs bd ps ≤ ps.length
  | [] => by simp [lfs]
  | p :: r => by have := lfs_rng bd r; simp only [lfs, List.length_cons]; split <;> omega
theorem hands_l1 (bd : List Place) (hb : BL bd) (ps : List Int) (hp : InP bd.length ps) (hl : ps.length ≤ 100) (kj : Int → Option (Int × Int × Int)) : ∀ (q i N : Nat) (s : Int), i + q = ps.length → q < N → 0 ≤ s → s ≤ i → i_HandsOf_l1 kj bd (ps, 0) N s (i : Int) = kj (s + lfs bd (ps.drop i)) := by
  intro q
  induction q with
  | zero =>
    intro i N s hi hN h0 hs
    obtain ⟨N, rfl⟩ := pos_fuel hN
    have hz : ¬ (i : Int) < (ps.length : Int) := by omega
    simp only [i_HandsOf_l1, hz, decide_false, cond_false]
    rw [List.drop_eq_nil_of_le (by omega)]
    simp [lfs]
  | succ q ih =>
    intro i N s hi hN h0 hs
    obtain ⟨N, rfl⟩ := pos_fuel hN
    have hz : (i : Int) < (ps.length : Int) := by omega
    have hlt : i < ps.length := by omega
    obtain ⟨⟨p, e1, e2, _⟩, _⟩ := fg_ok bd hb _ (hp _ (List.getElem_mem hlt))
    simp only [i_HandsOf_l1, hz, decide_true, cond_true, withK_eq]
    rw [idx_lt ps i hlt, Option.bind_some, e1, Option.bind_some]
    unfold i_Place_isLeft
    rw [Option.bind_some, e2, w64_nat i (by omega), List.drop_eq_getElem_cons hlt]
    simp only [lfs]
    have : decide (fg bd ps[i] ≤ 3) = lf bd ps[i] := rfl
    rw [this]
    cases lf bd ps[i] with
    | true =>
      simp only [cond_true, if_true]
      rw [w64_id (by omega) (by omega), ih (i + 1) N _ (by omega) (by omega) (by omega) (by omega), Int.add_assoc]
    | false =>
      simp only [cond_false, Bool.false_eq_true, if_false]
      rw [ih (i + 1) N _ (by omega) (by omega) (by omega) (by omega)]; simp
theorem hands_ok (bd : List Place) (hb : BL bd) (L t : Str) (hL : LY bd.length L) (ht : TT t L) (N : Nat) (hN : 300 < N) : i_HandsOf N bd L t = some (lfs bd (pls L t), (t.length : Int) - lfs bd (pls L t), 0) := by
  have h2 : (pls L t).length = t.length := by simp [pls]
  have h3 := lfs_rng bd (pls L t)
  have h4 := ht.1
  unfold i_HandsOf
  rw [so_ok bd hb L t hL ht N hN, Option.bind_some]
  simp only [bne_self_eq_false, cond_false, withK_eq]
  have e := hands_l1 bd hb (pls L t) (pls_in _ L t hL.1 ht.2) (by omega) (fun left10 => some (left10, w64 (((pls L t).length : Int) - left10), 0)) (pls L t).length 0 N 0 (by omega) (by omega) (by omega) (by omega)
  rw [show ((0 : Nat) : Int) = 0 from rfl] at e
  rw [e, List.drop_zero, Int.zero_add, w64_id (by omega) (by omega), h2]
/-- what each finger does -/
def fgs (bd : List Place) : List Int → List Int → List Int
  | c, [] => c
  | c, p :: r => fgs bd (c.set (fg bd p).toNat ((c[(fg bd p).toNat]?).getD 0 + 1)) r
theorem sum_set : ∀ (l : List Int) (i : Nat) (v : Int), i < l.length → (l.set i v).sum = l.sum - (l[i]?).getD 0 + v
  | [], _, _, h => by simp at h
  | x :: l, 0, v, _ => by simp; omega
  | x :: l, i + 1, v, h => by
    have := sum_set l i v (by simpa using h)
    simp only [List.set_cons_succ, List.sum_cons, this, List.getElem?_cons_succ]; omega
theorem fgs_len (bd : List Place) : ∀ (ps c : List Int), (fgs bd c ps).length = c.length
  | [], _ => rfl
  | p :: r, c => by simp only [fgs]; rw [fgs_len bd r]; simp
theorem fgs_sum (bd : List Place) (hb : BL bd) : ∀ (ps c : List Int), InP bd.length ps → c.length = 8 → (fgs bd c ps).sum = c.sum + ps.length ∧ ((fgs bd c ps).take 4).sum = (c.take 4).sum + lfs bd ps
  | [], c, _, _ => by simp [fgs, lfs]
  | p :: r, c, hp, hc => by
    obtain ⟨_, h0, h7⟩ := fg_ok bd hb p (hp p List.mem_cons_self)
    obtain ⟨g1, g2⟩ := fgs_sum bd hb r (c.set (fg bd p).toNat ((c[(fg bd p).toNat]?).getD 0 + 1)) (fun x hx => hp x (List.mem_cons_of_mem _ hx)) (by simpa using hc)
    simp only [fgs, lfs, List.length_cons]
    rw [g1, g2, sum_set c _ _ (by omega)]
    refine ⟨by omega, ?_⟩
    by_cases h3 : fg bd p ≤ 3
    · have hl : lf bd p = true := decide_eq_true h3
      rw [hl]
      simp only [if_true]
      rw [List.take_set, sum_set _ _ _ (by rw [List.length_take]; omega), List.getElem?_take, if_pos (by omega)]
      omega
    · have hl : lf bd p = false := decide_eq_false h3
      rw [hl, List.take_set_of_le (by omega)]
      simp
theorem fing_l1 (bd : List Place) (hb : BL bd) (ps : List Int) (hp : InP bd.length ps) (hl : ps.length ≤ 100) (kj : List Int → Option (List Int × Int)) : ∀ (q i N : Nat) (c : List Int), i + q = ps.length → q < N → c.length = 8 → (∀ x ∈ c, 0 ≤ x ∧ x ≤ i) → i_FingersOf_l1 kj bd (ps, 0) N c (i : Int) = kj (fgs bd c (ps.drop i)) := by
  intro q
  induction q with
  | zero =>
    intro i N c hi hN hc hx
    obtain ⟨N, rfl⟩ := pos_fuel hN
    have hz : ¬ (i : Int) < (ps.length : Int) := by omega
    simp only [i_FingersOf_l1, hz, decide_false, cond_false]
    rw [List.drop_eq_nil_of_le (by omega)]
    rfl
  | succ q ih =>
    intro i N c hi hN hc hx
    obtain ⟨N, rfl⟩ := pos_fuel hN
    have hz : (i : Int) < (ps.length : Int) := by omega
    have hlt : i < ps.length := by omega
    obtain ⟨⟨p, e1, e2, _⟩, h0, h7⟩ := fg_ok bd hb _ (hp _ (List.getElem_mem hlt))
    have hcl : (fg bd ps[i]).toNat < c.length := by omega
    have e3 := idx_int c (fg bd ps[i]) h0 (by omega)
    have h4 := hx _ (List.getElem_mem hcl)
    simp only [i_FingersOf_l1, hz, decide_true, cond_true]
    rw [idx_lt ps i hlt, Option.bind_some, e1, Option.bind_some, e2, e3, Option.bind_some, Option.bind_some, w64_nat i (by omega), w64_id (by omega) (by omega), List.drop_eq_getElem_cons hlt]
    simp only [fgs]
    have e5 : (c[(fg bd ps[i]).toNat]?).getD 0 = c[(fg bd ps[i]).toNat] := by rw [List.getElem?_eq_getElem hcl]; rfl
    rw [e5]
    refine ih (i + 1) N _ (by omega) (by omega) (by simpa using hc) fun x hxm => ?_
    rcases List.mem_or_eq_of_mem_set hxm with hxm | rfl
    · have := hx x hxm; omega
    · omega
theorem fing_ok (bd : List Place) (hb : BL bd) (L t : Str) (hL : LY bd.length L) (ht : TT t L) (N : Nat) (hN : 300 < N) : ∃ c, i_FingersOf N bd L t = some (c, 0) ∧ c.length = 8 ∧ c.sum = (t.length : Int) ∧ (c.take 4).sum = lfs bd (pls L t) ∧ ∀ x ∈ c, 0 ≤ x ∧ x ≤ 100 := by
  have h2 : (pls L t).length = t.length := by simp [pls]
  have h4 := ht.1
  have hin := pls_in _ L t hL.1 ht.2
  unfold i_FingersOf
  rw [so_ok bd hb L t hL ht N hN, Option.bind_some]
  simp only [bne_self_eq_false, cond_false, withK_eq]
  have hm : mk (8 : Int) (0 : Int) = some (List.replicate 8 0) := mk_some 8 0 (by unfold LIM; omega)
  rw [hm, Option.bind_some]
  have e := fing_l1 bd hb (pls L t) hin (by omega) (fun l13 => some (l13, 0)) (pls L t).length 0 N (List.replicate 8 0) (by omega) (by omega) (by simp) (fun x hx => by rw [List.mem_replicate] at hx; omega)
  rw [show ((0 : Nat) : Int) = 0 from rfl, List.drop_zero] at e
  obtain ⟨g1, g2⟩ := fgs_sum bd hb (pls L t) (List.replicate 8 0) hin (by simp)
  have hnn : ∀ (ps c : List Int), (∀ x ∈ c, 0 ≤ x) → ∀ x ∈ fgs bd c ps, 0 ≤ x := fun ps => by
    induction ps with
    | nil => intro c h x hx; exact h x hx
    | cons p r ih =>
      intro c h
      refine ih _ fun x hx => ?_
      rcases List.mem_or_eq_of_mem_set hx with hx | rfl
      · exact h x hx
      · cases hh : c[(fg bd p).toNat]? with
        | none => simp
        | some y => have := h y (List.mem_of_getElem? hh); simp; omega
  have hn := hnn (pls L t) (List.replicate 8 0) (fun x hx => by rw [List.mem_replicate] at hx; omega)
  refine ⟨_, e, by rw [fgs_len]; simp, by rw [g1, h2]; simp, by rw [g2]; simp, fun x hx => ⟨hn x hx, ?_⟩⟩
  have hsum : ∀ l : List Int, (∀ x ∈ l, 0 ≤ x) → ∀ x ∈ l, x ≤ l.sum := fun l => by
    induction l with
    | nil => intro _ x hx; cases hx
    | cons y r ih =>
      intro h x hx
      have hs : 0 ≤ r.sum := by
        clear ih hx
        induction r with
        | nil => simp
        | cons z r ih2 =>
          have := ih2 fun q hq => h q (by rcases List.mem_cons.1 hq with rfl | hq; exact List.mem_cons_self; exact List.mem_cons_of_mem _ (List.mem_cons_of_mem _ hq))
          have := h z (List.mem_cons_of_mem _ List.mem_cons_self)
          simp only [List.sum_cons]; omega
      have hy := h y List.mem_cons_self
      simp only [List.sum_cons]
      rcases List.mem_cons.1 hx with rfl | hx
      · omega
      · have := ih (fun q hq => h q (List.mem_cons_of_mem _ hq)) x hx; omega
  have h5 := hsum _ hn x hx
  rw [g1, h2] at h5
  simp at h5
  omega
/-- turns -/
def trn (bd : List Place) : Int → List Int → Int
  | _, [] => 0
  | p, q :: r => (if lf bd p != lf bd q then 1 else 0) + trn bd q r
def trns (bd : List Place) : List Int → Int
  | [] => 0
  | p :: r => trn bd p r
theorem alt_l1 (bd : List Place) (hb : BL bd) (ps : List Int) (hp : InP bd.length ps) (hl : ps.length ≤ 100) (kj : Int → Option (Int × Int)) : ∀ (q x N : Nat) (s : Int) (p : Int), x + q = ps.length → 1 ≤ x → ps[x - 1]? = some p → q < N → 0 ≤ s → s ≤ x → i_AlternationsOf_l1 kj bd (ps, 0) N s (x : Int) = kj (s + trn bd p (ps.drop x)) := by
  intro q
  induction q with
  | zero =>
    intro x N s p hx h1 hpx hN h0 hs
    obtain ⟨N, rfl⟩ := pos_fuel hN
    have hz : ¬ (x : Int) < (ps.length : Int) := by omega
    simp only [i_AlternationsOf_l1, hz, decide_false, cond_false]
    rw [List.drop_eq_nil_of_le (by omega)]
    simp [trn]
  | succ q ih =>
    intro x N s p hx h1 hpx hN h0 hs
    obtain ⟨N, rfl⟩ := pos_fuel hN
    have hz : (x : Int) < (ps.length : Int) := by omega
    have hlt : x < ps.length := by omega
    have hx1 : w64 ((x : Int) - 1) = ((x - 1 : Nat) : Int) := by rw [w64_id (by omega) (by omega)]; omega
    obtain ⟨⟨p1, e1, e2, _⟩, _⟩ := fg_ok bd hb p (hp p (List.mem_of_getElem? hpx))
    obtain ⟨⟨p2, e3, e4, _⟩, _⟩ := fg_ok bd hb ps[x] (hp _ (List.getElem_mem hlt))
    simp only [i_AlternationsOf_l1, hz, decide_true, cond_true, withK_eq]
    unfold i_Place_isLeft
    rw [hx1, idx_nat, hpx, Option.bind_some, e1, Option.bind_some, Option.bind_some, idx_lt ps x hlt, Option.bind_some, e3, Option.bind_some, Option.bind_some, e2, e4, w64_nat x (by omega), List.drop_eq_getElem_cons hlt]
    simp only [trn]
    have : (decide (fg bd p ≤ 3) != decide (fg bd ps[x] ≤ 3)) = (lf bd p != lf bd ps[x]) := rfl
    rw [this]
    cases hc : lf bd p != lf bd ps[x] with
    | true =>
      simp only [cond_true, if_true]
      rw [w64_id (by omega) (by omega), ih (x + 1) N _ ps[x] (by omega) (by omega) (by rw [Nat.add_sub_cancel, List.getElem?_eq_getElem hlt]) (by omega) (by omega) (by omega), Int.add_assoc]
    | false =>
      simp only [cond_false, Bool.false_eq_true, if_false]
      rw [ih (x + 1) N _ ps[x] (by omega) (by omega) (by rw [Nat.add_sub_cancel, List.getElem?_eq_getElem hlt]) (by omega) (by omega) (by omega)]; simp
theorem alt_ok (bd : List Place) (hb : BL bd) (L t : Str) (hL : LY bd.length L) (ht : TT t L) (N : Nat) (hN : 300 < N) : i_AlternationsOf N bd L t = some (trns bd (pls L t), 0) := by
  have h2 : (pls L t).length = t.length := by simp [pls]
  have h4 := ht.1
  have hin := pls_in _ L t hL.1 ht.2
  unfold i_AlternationsOf
  rw [so_ok bd hb L t hL ht N hN, Option.bind_some]
  simp only [bne_self_eq_false, cond_false, withK_eq]
  generalize pls L t = ps at *
  cases ps with
  | nil =>
    obtain ⟨N, rfl⟩ := pos_fuel (show 0 < N by omega)
    have hz : ¬ (1 : Int) < (([] : List Int).length : Int) := by simp
    simp only [i_AlternationsOf_l1, hz, decide_false, cond_false]
    rfl
  | cons p r =>
    have e := alt_l1 bd hb (p :: r) hin (by omega) (fun n10 => some (n10, 0)) r.length 1 N 0 p (by simp; omega) (by omega) rfl (by simp at h2; omega) (by omega) (by omega)
    rw [show ((1 : Nat) : Int) = 1 from rfl] at e
    rw [e]
    simp [trns]
theorem index_l1 (L : Str) (hl : L.length ≤ 100) (c : UInt8) (hc : c ∈ L) (kj : Option Int) : ∀ (q k N : Nat), k + q = L.length → q < N → k ≤ ix L c → w_a2Index_l1 kj L c N (k : Int) = some (ix L c : Int) := by
  intro q
  have hi := ix_lt L c hc
  induction q with
  | zero =>
    intro k N hk hN h
    omega
  | succ q ih =>
    intro k N hk hN h
    obtain ⟨N, rfl⟩ := pos_fuel hN
    have hz : (k : Int) < (L.length : Int) := by omega
    have hlt : k < L.length := by omega
    simp only [w_a2Index_l1, hz, decide_true, cond_true]
    rw [idx_lt L k hlt, Option.bind_some]
    by_cases hki : k = ix L c
    · have := ix_get L c hc
      rw [← hki, List.getElem?_eq_getElem hlt] at this
      have hb : (L[k] == c) = true := by rw [Option.some.inj this]; exact beq_self_eq_true c
      rw [hb, cond_true, hki]
    · have := ix_min L c k (by omega)
      rw [List.getElem?_eq_getElem hlt] at this
      have hb : (L[k] == c) = false := by rw [beq_eq_false_iff_ne]; exact fun e => this (by rw [e])
      rw [hb, cond_false, w64_nat k (by omega)]
      exact ih (k + 1) N (by omega) (by omega) (by omega)
theorem index_ok (L : Str) (hl : L.length ≤ 100) (c : UInt8) (hc : c ∈ L) (N : Nat) (hN : 200 < N) : w_a2Index N L c = some (ix L c : Int) := by
  unfold w_a2Index
  simp only [withK_eq]
  have := index_l1 L hl c hc (some 0) L.length 0 N (by omega) (by omega) (Nat.zero_le _)
  rw [show ((0 : Nat) : Int) = 0 from rfl] at this
  exact this
theorem stc_ok (bd : List Place) (hb : BL bd) (a b : Int) (ha : 0 ≤ a ∧ a < bd.length) (hc : 0 ≤ b ∧ b < bd.length) (N : Nat) (hN : 100 < N) : i_StrokeCost N bd a b = some (sc bd a b, 0) := by
  have h5 := hb.2.1
  unfold i_StrokeCost
  rw [vb_ok bd hb N (by omega), Option.bind_some]
  simp only [Bool.not_true, cond_false]
  rw [w64_id (by omega) (by omega), bet_ok a _ _ ha.1 (by omega), bet_ok b _ _ hc.1 (by omega)]
  simp only [Option.bind_some, Bool.not_true, orO_false, cond_false]
  rw [(sc_ok bd hb a b ha hc).1]; rfl
theorem sum_l1 (l : List Int) (hl : l.length ≤ 100) (hc : ∀ x ∈ l, 0 ≤ x ∧ x ≤ 100000) (kj : Int → Option Int) : ∀ (n i N : Nat) (s : Int), i + n = l.length → n < N → 0 ≤ s → s ≤ 100000 * i → w_a2Sum_l1 kj l N s (i : Int) = kj (s + (l.drop i).sum) := by
  intro n
  induction n with
  | zero =>
    intro i N s hi hN h0 h1
    obtain ⟨N, rfl⟩ := pos_fuel hN
    have hz : ¬ (i : Int) < (l.length : Int) := by omega
    simp only [w_a2Sum_l1, hz, decide_false, cond_false]
    rw [List.drop_eq_nil_of_le (by omega)]
    simp
  | succ n ih =>
    intro i N s hi hN h0 h1
    obtain ⟨N, rfl⟩ := pos_fuel hN
    have hz : (i : Int) < (l.length : Int) := by omega
    have hlt : i < l.length := by omega
    have hci := hc _ (List.getElem_mem hlt)
    simp only [w_a2Sum_l1, hz, decide_true, cond_true]
    rw [idx_lt l i hlt, Option.bind_some, w64_nat i (by omega), w64_id (x := s + l[i]) (by omega) (by omega), ih (i + 1) N _ (by omega) (by omega) (by omega) (by omega), List.drop_eq_getElem_cons hlt, List.sum_cons, Int.add_assoc]
theorem sum_ok (l : List Int) (hl : l.length ≤ 100) (hc : ∀ x ∈ l, 0 ≤ x ∧ x ≤ 100000) (N : Nat) (hN : 200 < N) : w_a2Sum N l = some l.sum := by
  unfold w_a2Sum
  simp only [withK_eq]
  have e := sum_l1 l hl hc (fun s => some s) l.length 0 N 0 (by omega) (by omega) (by omega) (by omega)
  rw [show ((0 : Nat) : Int) = 0 from rfl] at e
  rw [e]
  simp
theorem law_l1 (bd : List Place) (hb : BL bd) (L t : Str) (hL : LY bd.length L) (ht : TT t L) (kj : Int → Int → Option Bool) : ∀ (q x N : Nat) (s u : Int) (p : Int), x + q = t.length → 1 ≤ x → (pls L t)[x - 1]? = some p → q + 300 < N → 0 ≤ s → s ≤ 50 * x → 0 ≤ u → u ≤ x →
    w_FnTextCosts_l1 kj bd (L, t) N s u (x : Int) = kj (s + ctR bd p ((pls L t).drop x)) (u + trn bd p ((pls L t).drop x)) := by
  have h4 := ht.1
  have h5 := hb.2.1
  have hL1 := hL.1
  have hin := pls_in _ L t hL.1 ht.2
  have h2 : (pls L t).length = t.length := by simp [pls]
  intro q
  induction q with
  | zero =>
    intro x N s u p hx h1 hpx hN h0 hs hu0 hu
    obtain ⟨N, rfl⟩ := pos_fuel (show 0 < N by omega)
    have hz : ¬ (x : Int) < (t.length : Int) := by omega
    simp only [w_FnTextCosts_l1, hz, decide_false, cond_false]
    rw [List.drop_eq_nil_of_le (by omega)]
    simp [ctR, trn]
  | succ q ih =>
    intro x N s u p hx h1 hpx hN h0 hs hu0 hu
    obtain ⟨N, rfl⟩ := pos_fuel (show 0 < N by omega)
    have hz : (x : Int) < (t.length : Int) := by omega
    have hlt : x < t.length := by omega
    have hltp : x < (pls L t).length := by omega
    have hlt1 : x - 1 < t.length := by omega
    have hz0 : ((x : Int) == 0) = false := by rw [beq_eq_false_iff_ne]; omega
    have hx1 : w64 ((x : Int) - 1) = ((x - 1 : Nat) : Int) := by rw [w64_id (by omega) (by omega)]; omega
    have hq : (ix L t[x] : Int) = (pls L t)[x] := by simp [pls]
    have hpq : (ix L t[x - 1] : Int) = p := by
      have : (pls L t)[x - 1]? = some (ix L t[x - 1] : Int) := by simp [pls, hlt1]
      rw [this] at hpx
      exact Option.some.inj hpx
    have hpi := hin p (List.mem_of_getElem? hpx)
    have hqi := hin _ (List.getElem_mem hltp)
    obtain ⟨⟨p1, e1, e2, _⟩, _⟩ := fg_ok bd hb p hpi
    obtain ⟨⟨p2, e3, e4, _⟩, _⟩ := fg_ok bd hb _ hqi
    have hsc := (sc_ok bd hb p _ hpi hqi).2
    simp only [w_FnTextCosts_l1, hz, decide_true, cond_true, withK_eq]
    rw [idx_lt t x hlt, Option.bind_some, index_ok L (by omega) _ (ht.2 _ (List.getElem_mem hlt)) N (by omega), Option.bind_some, hz0, cond_false, hx1, idx_lt t (x - 1) hlt1, Option.bind_some, index_ok L (by omega) _ (ht.2 _ (List.getElem_mem hlt1)) N (by omega), Option.bind_some, hq, hpq, stc_ok bd hb _ _ hpi hqi N (by omega), Option.bind_some]
    simp only [bne_self_eq_false, cond_false]
    rw [e1, Option.bind_some, e3, Option.bind_some, e2, e4, w64_nat x (by omega), w64_id (x := s + sc bd p (pls L t)[x]) (by omega) (by omega), List.drop_eq_getElem_cons hltp]
    simp only [ctR, trn]
    have : (decide (fg bd p ≤ 3) != decide (fg bd (pls L t)[x] ≤ 3)) = (lf bd p != lf bd (pls L t)[x]) := rfl
    rw [this]
    have hnx : (pls L t)[x + 1 - 1]? = some (pls L t)[x] := by rw [Nat.add_sub_cancel, List.getElem?_eq_getElem hltp]
    cases hc : lf bd p != lf bd (pls L t)[x] with
    | true =>
      simp only [cond_true, if_true]
      rw [w64_id (by omega) (by omega), ih (x + 1) N _ _ _ (by omega) (by omega) hnx (by omega) (by omega) (by omega) (by omega) (by omega), Int.add_assoc, Int.add_assoc]
    | false =>
      simp only [cond_false, Bool.false_eq_true, if_false]
      rw [ih (x + 1) N _ _ _ (by omega) (by omega) hnx (by omega) (by omega) (by omega) (by omega) (by omega), Int.add_assoc]; simp
theorem law_l0 (bd : List Place) (hb : BL bd) (L t : Str) (hL : LY bd.length L) (ht : TT t L) (kj : Int → Int → Option Bool) (N : Nat) (hN : 400 < N) : w_FnTextCosts_l1 kj bd (L, t) N 0 0 0 = kj (cst bd t L) (trns bd (pls L t)) := by
  have h4 := ht.1
  have h5 := hb.2.1
  have hL1 := hL.1
  cases t with
  | nil =>
    obtain ⟨N, rfl⟩ := pos_fuel (show 0 < N by omega)
    have hz : ¬ (0 : Int) < (([] : Str).length : Int) := by simp
    simp only [w_FnTextCosts_l1, hz, decide_false, cond_false]
    rfl
  | cons c r =>
    have hin := pls_in _ L (c :: r) hL.1 ht.2
    obtain ⟨N, rfl⟩ := pos_fuel (show 0 < N by omega)
    have hz : (0 : Int) < ((c :: r).length : Int) := by rw [List.length_cons]; omega
    have hi : idx (c :: r) 0 = some c := rfl
    have hp : pls L (c :: r) = (ix L c : Int) :: pls L r := rfl
    obtain ⟨⟨p1, e1, _, e2⟩, _⟩ := fg_ok bd hb (ix L c : Int) (hin _ (by rw [hp]; exact List.mem_cons_self))
    have hef := (ef_ok bd hb (ix L c : Int) (hin _ (by rw [hp]; exact List.mem_cons_self))).2
    simp only [w_FnTextCosts_l1, hz, decide_true, cond_true, withK_eq, beq_self_eq_true]
    rw [hi, Option.bind_some, index_ok L (by omega) c (ht.2 c List.mem_cons_self) N (by omega), Option.bind_some, e1, Option.bind_some, e2]
    have h1 : w64 ((0 : Int) + 1) = ((1 : Nat) : Int) := rfl
    rw [h1, law_l1 bd hb L (c :: r) hL ht kj r.length 1 N _ _ (ix L c : Int) (by simp; omega) (by omega) (by rw [hp]; rfl) (by simp at h4; omega) hef.1 (by omega) (by omega) (by omega), hp]
    simp [cst, ct, trns, hp]
theorem law_FnTextCosts (code more : List UInt8) (_ : wfL wfByte code) (_ : wfL wfByte more) : ∃ N, w_FnTextCosts N code more = some true := by
  refine ⟨256 ^ 5 + 5000, ?_⟩
  obtain ⟨N, hN⟩ : ∃ N, N = 256 ^ 5 + 5000 := ⟨_, rfl⟩
  have hN1 : 256 ^ 5 + 2000 < N := by rw [hN]; exact Nat.add_lt_add_left (by omega) _
  have hN2 : 4000 < N := by rw [hN]; exact Nat.lt_of_lt_of_le (by omega) (Nat.le_add_left _ _)
  rw [← hN]
  clear hN
  unfold w_FnTextCosts
  have hw : ∃ q, w_a2Long code more = some q := by
    unfold w_a2Long
    simp only [orO_some, Option.bind_some]
    exact ⟨_, rfl⟩
  obtain ⟨q, hq⟩ := hw
  rw [hq, Option.bind_some]
  cases q
  case true => rfl
  rw [cond_false]
  obtain ⟨bd, e1, hb⟩ := board_ok code N (by omega)
  obtain ⟨⟨L, t⟩, e2, hL, ht1, ht2⟩ := letters_ok more bd.length hb.1 hb.2.1 N (by omega)
  simp only at hL ht1 ht2
  have ht : TT t L := ⟨ht1, ht2⟩
  obtain ⟨b, c, b1, b2, b3, b4⟩ := best_ok bd hb L t hL ht N hN1
  have hLb := hL.perm b2
  have htb : TT t b := ⟨ht1, fun c hc => b2.mem_iff.2 (ht2 c hc)⟩
  obtain ⟨fc, f1, f2, f3, f4, f5⟩ := fing_ok bd hb L t hL ht N (by omega)
  have hlf := lfs_rng bd (pls L t)
  have h2 : (pls L t).length = t.length := by simp [pls]
  rw [e1, Option.bind_some, e2, Option.bind_some]
  simp only
  rw [tc_ok bd hb L t hL ht N (by omega), Option.bind_some, b1, Option.bind_some, tc_ok bd hb b t hLb htb N (by omega), Option.bind_some, hands_ok bd hb L t hL ht N (by omega), Option.bind_some, f1, Option.bind_some, alt_ok bd hb L t hL ht N (by omega), Option.bind_some]
  have s1 := sum_ok fc (by omega) (fun x hx => by have := f5 x hx; omega) N (by omega)
  have s2 := sum_ok (fc.take 4) (by rw [List.length_take]; omega) (fun x hx => by have := f5 x (List.mem_of_mem_take hx); omega) N (by omega)
  have hsub : sub fc 0 4 = some (fc.take 4) := by rw [sub_some fc 0 4 (by omega) (by omega) (by omega)]; rfl
  have c1 : decide (c > cst bd t L) = false := decide_eq_false (by omega)
  have c2 : (cst bd t b != c) = false := by rw [b3]; simp
  have c3 : (w64 (lfs bd (pls L t) + ((t.length : Int) - lfs bd (pls L t))) != (t.length : Int)) = false := by
    rw [w64_id (by omega) (by omega), show lfs bd (pls L t) + ((t.length : Int) - lfs bd (pls L t)) = (t.length : Int) by omega]; exact bne_self_eq_false _
  have c4 : ((fc.length : Int) != 8) = false := by rw [f2]; rfl
  simp only [bne_self_eq_false, c1, c2, c3, c4, orO_some, orO_false, Bool.or_self, Option.bind_some, s1, s2, hsub, f3, f4, cond_false, withK_eq]
  rw [law_l0 bd hb L t hL ht _ N (by omega)]
  simp
end Go.Proofs.Ytdkhpbfciajaeaa
