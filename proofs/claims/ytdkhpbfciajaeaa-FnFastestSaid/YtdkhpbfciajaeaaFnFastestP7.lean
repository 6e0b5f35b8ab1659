/-
  Plain lemmas on these functions. No conditions but those that each states.
-/
import Derived.Test.YtdkhpbfciajaeaaFnFastestP6
namespace Go.Proofs.Ytdkhpbfciajaeaa
set_option linter.unusedVariables false
set_option linter.unusedSimpArgs false
/-! The slowest pair, the draws, and the law. -/
theorem drawbars_l1 (code : List UInt8) (b : Basket) (hb : BG b) (kj : List Int → Option (List Int)) (hk : ∀ l, kj l = some l) : ∀ (n N : Nat) (l : List Int) (a sd hi : Int), n < N → 0 ≤ a → a ≤ hi → hi + 2 * n ≤ 1000000 → l.length + n ≤ 11 → InB b l → ∃ l', s_A2Bars_l1 kj code b N a sd l (n : Int) = some l' ∧ l'.length ≤ 11 ∧ InB b l' := by
  intro n
  induction n with
  | zero =>
    intro N l a sd hi hN h0 h1 h2 h3 h4
    obtain ⟨N, rfl⟩ := pos_fuel hN
    have hz : ¬ ((0 : Nat) : Int) > 0 := by omega
    simp only [s_A2Bars_l1, hz, decide_false, cond_false, hk]
    exact ⟨l, rfl, by omega, h4⟩
  | succ n ih =>
    intro N l a sd hi hN h0 h1 h2 h3 h4
    obtain ⟨N, rfl⟩ := pos_fuel hN
    have hz : ((n + 1 : Nat) : Int) > 0 := by omega
    have e2 : w64 (((n + 1 : Nat) : Int) - 1) = (n : Int) := by rw [w64_id (by omega) (by omega)]; omega
    simp only [s_A2Bars_l1, hz, decide_true, cond_true, e2]
    obtain ⟨v, e, g1, g2, g3⟩ := pickA (code := code) (hi := hi) (s := L00Src.mk code a sd) b.bars ⟨rfl, h0, h1⟩ (by omega)
    have g4 := g3 (by have := hb.1; omega)
    rw [e, Option.bind_some, app_some _ _ (by unfold LIM; simp; omega), Option.bind_some]
    refine ih N _ _ _ (hi + 2) (by omega) g1.2.1 g1.2.2 (by omega) (by simp; omega) fun x hx => ?_
    rcases List.mem_append.1 hx with hx | hx
    · exact h4 x hx
    · rw [List.mem_singleton.1 hx]; omega
theorem drawbars_ok (code : List UInt8) (b : Basket) (hb : BG b) (N : Nat) (hN : 20 < N) : ∃ l, s_A2Bars N code b = some l ∧ l.length ≤ 11 ∧ InB b l := by
  unfold s_A2Bars
  rw [fromA]
  simp only [Option.bind_some, withK_eq]
  obtain ⟨v, e, g1, g2, g3⟩ := pickA (code := code) (hi := 0) (s := L00Src.mk code 0 0) 12 ⟨rfl, Int.le_refl _, Int.le_refl _⟩ (by omega)
  have g4 := g3 (by omega)
  obtain ⟨k, hk⟩ := Int.eq_ofNat_of_zero_le g2
  rw [e, Option.bind_some, hk]
  exact drawbars_l1 code b hb _ (fun _ => rfl) k N [] _ _ 2 (by omega) g1.2.1 (by have := g1.2.2; omega) (by omega) (by simp; omega) (fun x hx => by cases hx)
/-- the wait before place i -/
def wp (b : Basket) (r : List Int) (i : Nat) : Int := wt b ((r[i - 1]?).getD 0) ((r[i]?).getD 0)
theorem must_ok (b : Basket) (hb : BG b) (x y : Int) (hx : 0 ≤ x ∧ x < b.bars) (hy : 0 ≤ y ∧ y < b.bars) : s_MustWait b x y = some (wt b x y, 0) := by
  have hw := wt_rng b hb x y
  have hb' := hb
  obtain ⟨h1, h2, h3, h4, h5, h6, h7, h8, h9, h10⟩ := hb
  unfold s_MustWait
  rw [ok3 b hb', Option.bind_some]
  simp only [Bool.not_true, cond_false]
  rw [bar_ok b hb' x hx, Option.bind_some, bar_ok b hb' y hy]
  simp only [Option.bind_some, Bool.not_true, orO_false, cond_false]
  have e : s_l03Wait b x y = some (wt b x y) := by
    unfold s_l03Wait s_l00Size s_l00Max wt at *
    by_cases he : x = y
    · have hbq : (x == y) = true := by simpa using he
      rw [hbq, cond_true, if_pos he, w64_id (by omega) (by omega)]
    · have hbq : (x == y) = false := by simpa using he
      rw [hbq, cond_false, if_neg he, w64_id (x := x - y) (by omega) (by omega)]
      have hmx : ∀ z : Int, imax z 0 = if z > 0 then z else 0 := fun z => by unfold imax; split <;> split <;> omega
      have key : ∀ z : Int, -100 ≤ z → z ≤ 100 → ((bif decide (0 > z) then some 0 else some z : Option Int).bind fun r8 => some (w64 (b.clear + r8))) = some (b.clear + imax z 0) := fun z q1 q2 => by
        rw [hmx]
        by_cases hz : 0 > z
        · rw [decide_eq_true hz, cond_true, Option.bind_some, if_neg (by omega), w64_id (by omega) (by omega)]
        · rw [decide_eq_false hz, cond_false, Option.bind_some, w64_id (by omega) (by omega)]
          by_cases hz2 : z > 0
          · rw [if_pos hz2]
          · rw [if_neg hz2, show z = 0 by omega]
      by_cases hn : x - y < 0
      · simp only [hn, decide_true, cond_true, if_true, Option.bind_some]
        rw [w64_id (x := 0 - (x - y)) (by omega) (by omega), w64_id (x := b.near - (0 - (x - y))) (by omega) (by omega)]
        exact key _ (by omega) (by omega)
      · simp only [hn, decide_false, cond_false, if_false, Option.bind_some]
        rw [w64_id (x := b.near - (x - y)) (by omega) (by omega)]
        exact key _ (by omega) (by omega)
  rw [e]; rfl
theorem at_r {r : List Int} {i : Nat} (h : i < r.length) : (r[i]?).getD 0 = r[i] := by rw [List.getElem?_eq_getElem h]; rfl
/-- what is known of the slowest pair so far -/
def SP (b : Basket) (r : List Int) (i : Nat) (best most : Int) : Prop := (i = 1 ∧ best = 1 ∧ most = 0) ∨ ∃ k : Nat, best = (k : Int) ∧ 1 ≤ k ∧ k < i ∧ most = wp b r k ∧ (∀ j, 1 ≤ j → j < i → wp b r j ≤ most ∧ (j < k → wp b r j < most))
theorem slow_l1 (b : Basket) (hb : BG b) (r : List Int) (hr : r.length ≤ 11) (hin : InB b r) (h2 : 2 ≤ r.length) : ∀ (q i N : Nat) (best most : Int), i + q = r.length → 1 ≤ i → q < N → SP b r i best most →
    ∃ k : Nat, i_SlowestPair_l1 (fun best13 => some (best13, 0)) b r N best most (i : Int) = some ((k : Int), 0) ∧ 1 ≤ k ∧ k < r.length ∧ (∀ j, 1 ≤ j → j < r.length → wp b r j ≤ wp b r k ∧ (j < k → wp b r j < wp b r k)) := by
  intro q
  induction q with
  | zero =>
    intro i N best most hi h1 hN h
    obtain ⟨N, rfl⟩ := pos_fuel hN
    have hz : ¬ (i : Int) < (r.length : Int) := by omega
    simp only [i_SlowestPair_l1, hz, decide_false, cond_false]
    rcases h with ⟨h, _⟩ | ⟨k, rfl, g1, g2, rfl, g3⟩
    · omega
    · exact ⟨k, rfl, g1, by omega, fun j q1 q2 => g3 j q1 (by omega)⟩
  | succ q ih =>
    intro i N best most hi h1 hN h
    obtain ⟨N, rfl⟩ := pos_fuel hN
    have hz : (i : Int) < (r.length : Int) := by omega
    have hlt : i < r.length := by omega
    have hj : w64 ((i : Int) - 1) = ((i - 1 : Nat) : Int) := by rw [w64_id (by omega) (by omega)]; omega
    have hltj : i - 1 < r.length := by omega
    have hw := waits_ok b hb _ _ (hin _ (List.getElem_mem hltj)) (hin _ (List.getElem_mem hlt))
    have hwp : wt b r[i - 1] r[i] = wp b r i := by unfold wp; rw [at_r hltj, at_r hlt]
    have hp := wt_pos b hb r[i - 1] r[i]
    simp only [i_SlowestPair_l1, hz, decide_true, cond_true, withK_eq]
    rw [hj, idx_lt r (i - 1) hltj, Option.bind_some, idx_lt r i hlt, Option.bind_some, hw, Option.bind_some, hwp, w64_nat i (by omega)]
    rw [hwp] at hp
    by_cases hc : wp b r i > most
    · rw [decide_eq_true hc, cond_true]
      refine ih (i + 1) N _ _ (by omega) (by omega) (by omega) (.inr ⟨i, rfl, h1, by omega, rfl, fun j q1 q2 => ?_⟩)
      by_cases hji : j = i
      · subst hji; exact ⟨Int.le_refl _, fun h => by omega⟩
      · rcases h with ⟨rfl, _, rfl⟩ | ⟨k, rfl, g1, g2, rfl, g3⟩
        · omega
        · have := g3 j q1 (by omega); exact ⟨by omega, fun _ => by omega⟩
    · rw [decide_eq_false hc, cond_false]
      rcases h with ⟨rfl, _, rfl⟩ | ⟨k, rfl, g1, g2, rfl, g3⟩
      · omega
      · refine ih (i + 1) N _ _ (by omega) (by omega) (by omega) (.inr ⟨k, rfl, g1, by omega, rfl, fun j q1 q2 => ?_⟩)
        by_cases hji : j = i
        · subst hji; exact ⟨by omega, fun h => by omega⟩
        · exact g3 j q1 (by omega)
theorem slow_ok (b : Basket) (hb : BG b) (r : List Int) (hr : r.length ≤ 11) (hin : InB b r) (N : Nat) (hN : 100 < N) :
    (r.length < 2 → i_SlowestPair N b r = some (0, 3)) ∧ (2 ≤ r.length → ∃ k : Nat, i_SlowestPair N b r = some ((k : Int), 0) ∧ 1 ≤ k ∧ k < r.length ∧ (∀ j, 1 ≤ j → j < r.length → wp b r j ≤ wp b r k ∧ (j < k → wp b r j < wp b r k))) := by
  unfold i_SlowestPair
  rw [vb_ok b hb, Option.bind_some]
  simp only [Bool.not_true, cond_false]
  rw [bars_ok b hb r (by omega) hin N (by omega), Option.bind_some]
  simp only [Bool.not_true, cond_false, withK_eq]
  refine ⟨fun h => ?_, fun h => ?_⟩
  · rw [decide_eq_true (by omega : (r.length : Int) < 2), cond_true]
  · rw [decide_eq_false (by omega : ¬ (r.length : Int) < 2), cond_false]
    exact slow_l1 b hb r hr hin h (r.length - 1) 1 N 1 0 (by omega) (by omega) (by omega) (.inl ⟨rfl, rfl, rfl⟩)
theorem has_l1 (l : List Int) (v : Int) (hl : l.length ≤ 1000) : ∀ (q i N : Nat), i + q = l.length → q < N → w_a2Has_l1 (some false) l v N (i : Int) = some (decide (v ∈ l.drop i)) := by
  intro q
  induction q with
  | zero =>
    intro i N hi hN
    obtain ⟨N, rfl⟩ := pos_fuel hN
    have hz : ¬ (i : Int) < (l.length : Int) := by omega
    simp only [w_a2Has_l1, hz, decide_false, cond_false]
    rw [List.drop_eq_nil_of_le (by omega)]; simp
  | succ q ih =>
    intro i N hi hN
    obtain ⟨N, rfl⟩ := pos_fuel hN
    have hz : (i : Int) < (l.length : Int) := by omega
    have hlt : i < l.length := by omega
    simp only [w_a2Has_l1, hz, decide_true, cond_true]
    rw [idx_lt l i hlt, Option.bind_some, w64_nat i (by omega), List.drop_eq_getElem_cons hlt]
    by_cases e : l[i] = v
    · subst e
      rw [beq_self_eq_true, cond_true, decide_eq_true List.mem_cons_self]
    · have hne : (l[i] == v) = false := by rw [beq_eq_false_iff_ne]; exact e
      rw [hne, cond_false, ih (i + 1) N (by omega) (by omega)]
      have h : (v ∈ l[i] :: l.drop (i + 1)) ↔ v ∈ l.drop (i + 1) := by
        rw [List.mem_cons]; exact ⟨fun h => h.resolve_left (fun q => e q.symm), .inr⟩
      rw [decide_eq_decide.2 h]
theorem has_ok (l : List Int) (v : Int) (hl : l.length ≤ 1000) (N : Nat) (hN : l.length < N) : w_a2Has N l v = some (decide (v ∈ l)) := by
  unfold w_a2Has
  simp only [withK_eq]
  have := has_l1 l v hl l.length 0 N (by omega) hN
  rw [show ((0 : Nat) : Int) = 0 from rfl, List.drop_zero] at this
  exact this
theorem law_l1 (b : Basket) (hb : BG b) (r : List Int) (hr : r.length ≤ 11) (hin : InB b r) (kj : Option Bool) : ∀ (q i N : Nat), i + q = r.length → q + 300 < N → w_FnFastest_l1 kj b r (fs b r, 0) N (i : Int) = kj := by
  have hF := fs_FI b hb r hin
  have hlen := fs_len b hb r hin
  have hvs := hF.vs hb (by omega)
  intro q
  induction q with
  | zero =>
    intro i N hi hN
    obtain ⟨N, rfl⟩ := pos_fuel (show 0 < N by omega)
    have hz : ¬ (i : Int) < ((fs b r).length : Int) := by omega
    simp only [w_FnFastest_l1, hz, decide_false, cond_false]
  | succ q ih =>
    intro i N hi hN
    obtain ⟨N, rfl⟩ := pos_fuel (show 0 < N by omega)
    have hz : (i : Int) < ((fs b r).length : Int) := by omega
    have hlt : i < (fs b r).length := by omega
    have hltr : i < r.length := by omega
    have hbar : (fs b r)[i].bar = r[i] := by
      have := fs_bar b hb r hin
      have h2 : ((fs b r).map Stroke.bar)[i]? = r[i]? := by rw [this]
      rw [List.getElem?_map, List.getElem?_eq_getElem hlt, List.getElem?_eq_getElem hltr] at h2
      simpa using h2
    simp only [w_FnFastest_l1, hz, decide_true, cond_true, withK_eq]
    rw [idx_lt (fs b r) i hlt, idx_lt r i hltr, w64_nat i (by omega), ih (i + 1) N (by omega) (by omega)]
    simp only [Option.bind_some, hbar, bne_self_eq_false, cond_false]
    cases i with
    | zero => rfl
    | succ j =>
      have h0 : ((((j + 1 : Nat) : Int)) == 0) = false := by rw [beq_eq_false_iff_ne]; omega
      have hj : w64 (((j + 1 : Nat) : Int) - 1) = (j : Int) := by rw [w64_id (by omega) (by omega)]; omega
      have hltj : j < (fs b r).length := by omega
      have hpw := List.pairwise_iff_getElem.1 hF.2.1 j (j + 1) hltj hlt (by omega)
      have hwp := wt_pos b hb (fs b r)[j].bar (fs b r)[j + 1].bar
      have hne : ((fs b r)[j + 1].tick == (fs b r)[j].tick) = false := by rw [beq_eq_false_iff_ne]; omega
      rw [h0, hj, idx_lt (fs b r) j hltj]
      simp only [orO_false, Option.bind_some, hne, cond_false]
      have hsub : sub (fs b r) 0 ((j + 1 : Nat) : Int) = some ((fs b r).take (j + 1)) := by rw [sub_some _ 0 _ (by omega) (by omega) (by omega)]; simp
      have htk := hvs.2.1 _ (List.getElem_mem hlt)
      rw [hsub, Option.bind_some, app_some _ _ (by unfold LIM; simp; omega), Option.bind_some, List.nil_append, app_some _ _ (by unfold LIM; simp; omega), Option.bind_some, w64_id (x := (fs b r)[j + 1].tick - 1) (by omega) (by have := htk.2.2.2; omega)]
      have hmem : ∀ s ∈ (fs b r).take (j + 1), s.tick ≤ (fs b r)[j].tick := fun s hs => by
        obtain ⟨k, hk, rfl⟩ := List.getElem_of_mem hs
        rw [List.length_take] at hk
        rw [List.getElem_take]
        by_cases hkj : k = j
        · subst hkj; exact Int.le_refl _
        · exact hvs.get k j (by omega) hltj
      have hV : VS b ((fs b r).take (j + 1) ++ [⟨r[j + 1], (fs b r)[j + 1].tick - 1⟩]) := by
        refine ⟨by simp; omega, fun s hs => ?_, ?_⟩
        · rcases List.mem_append.1 hs with hs | hs
          · exact hvs.2.1 s (List.mem_of_mem_take hs)
          · rw [List.mem_singleton.1 hs]
            have := hin _ (List.getElem_mem hltr)
            have hjt := hvs.2.1 _ (List.getElem_mem hltj)
            exact ⟨this.1, this.2, by show 0 ≤ (fs b r)[j + 1].tick - 1; omega, by show (fs b r)[j + 1].tick - 1 ≤ 1000000; omega⟩
        · rw [List.pairwise_append]
          refine ⟨hvs.2.2.sublist (List.take_sublist _ _), by simp, fun a ha c hc => ?_⟩
          rw [List.mem_singleton.1 hc]
          have := hmem a ha
          show a.tick ≤ (fs b r)[j + 1].tick - 1
          omega
      rw [cj_ok b hb _ hV N (by omega), Option.bind_some]
      obtain ⟨s, hs, he⟩ := hF.2.2.1 (j + 1) _ (List.getElem?_eq_getElem hlt) (by omega)
      have hst := hmem s hs
      rw [hbar] at he
      have hjm : jm b ⟨r[j + 1], (fs b r)[j + 1].tick - 1⟩ s = true := by
        unfold jm
        rw [wt_comm b r[j + 1]]
        refine decide_eq_true ?_
        have hps := wt_pos b hb s.bar r[j + 1]
        simp only
        split <;> omega
      have hpos := jT_pos b _ s hjm ((fs b r).take (j + 1)) [] (by simpa using hs)
      rw [decide_eq_false (by omega)]
      rfl
theorem law_l2 (b : Basket) (hb : BG b) (r : List Int) (hr : r.length ≤ 11) (hin : InB b r) (k : Nat) (hk1 : 1 ≤ k) (hk : k < r.length) (hmax : ∀ j, 1 ≤ j → j < r.length → wp b r j ≤ wp b r k ∧ (j < k → wp b r j < wp b r k)) (kj : Option Bool) : ∀ (q i N : Nat), i + q = r.length → 1 ≤ i → q < N → w_FnFastest_l2 kj b r ((k : Int), 0) (wp b r k, 0) N (i : Int) = kj := by
  intro q
  induction q with
  | zero =>
    intro i N hi h1 hN
    obtain ⟨N, rfl⟩ := pos_fuel hN
    have hz : ¬ (i : Int) < (r.length : Int) := by omega
    simp only [w_FnFastest_l2, hz, decide_false, cond_false]
  | succ q ih =>
    intro i N hi h1 hN
    obtain ⟨N, rfl⟩ := pos_fuel hN
    have hz : (i : Int) < (r.length : Int) := by omega
    have hlt : i < r.length := by omega
    have hltj : i - 1 < r.length := by omega
    have hj : w64 ((i : Int) - 1) = ((i - 1 : Nat) : Int) := by rw [w64_id (by omega) (by omega)]; omega
    have hwp : wt b r[i - 1] r[i] = wp b r i := by unfold wp; rw [at_r hltj, at_r hlt]
    have hm := hmax i h1 hlt
    simp only [w_FnFastest_l2, hz, decide_true, cond_true]
    rw [hj, idx_lt r (i - 1) hltj, Option.bind_some, idx_lt r i hlt, Option.bind_some, must_ok b hb _ _ (hin _ (List.getElem_mem hltj)) (hin _ (List.getElem_mem hlt)), Option.bind_some, hwp]
    simp only [bne_self_eq_false, orO_false, Option.bind_some]
    rw [decide_eq_false (by omega : ¬ wp b r i > wp b r k)]
    simp only [orO_false]
    rw [andO_some]
    have hq : (decide ((i : Int) < (k : Int)) && (wp b r i == wp b r k)) = false := by
      rw [Bool.and_eq_false_iff]
      by_cases hik : i < k
      · right; rw [beq_eq_false_iff_ne]; have := hm.2 hik; omega
      · left; exact decide_eq_false (by omega)
    rw [hq]
    simp only [Option.bind_some, cond_false]
    rw [w64_nat i (by omega)]
    exact ih (i + 1) N (by omega) (by omega) (by omega)
theorem law_FnFastest (code more : List UInt8) (_ : wfL wfByte code) (_ : wfL wfByte more) : ∃ N, w_FnFastest N code more = some true := by
  refine ⟨20000, ?_⟩
  obtain ⟨N, hN⟩ : ∃ N, N = 20000 := ⟨_, rfl⟩
  rw [← hN]
  unfold w_FnFastest
  have hw : ∃ q, w_a2Long code more = some q := by
    unfold w_a2Long
    simp only [orO_some, Option.bind_some]
    exact ⟨_, rfl⟩
  obtain ⟨q, hq⟩ := hw
  rw [hq, Option.bind_some]
  cases q
  case true => rfl
  rw [cond_false]
  obtain ⟨b, e1, hb⟩ := basket_ok code
  obtain ⟨r, e2, hr, hin⟩ := drawbars_ok more b hb N (by omega)
  have hF := fs_FI b hb r hin
  have hlen := fs_len b hb r hin
  have hvs := hF.vs hb (by omega)
  have hb' := hb
  obtain ⟨g1, g2, g3, g4, g5, g6, g7, g8, g9, g10⟩ := hb
  -- the ticks for all
  obtain ⟨E, hE, hE0, hE1⟩ : ∃ E : Int, i_TicksFor N b r = some (E, 0) ∧ (r.length = 0 → E = 0) ∧ (r.length ≠ 0 → ∀ s, (fs b r)[r.length - 1]? = some s → E = s.tick + b.rise + b.fall) := by
    unfold i_TicksFor
    rw [vb_ok b hb', Option.bind_some]
    simp only [Bool.not_true, cond_false]
    rw [bars_ok b hb' r (by omega) hin N (by omega), Option.bind_some]
    simp only [Bool.not_true, cond_false]
    by_cases h0 : r.length = 0
    · have : ((r.length : Int) == 0) = true := by rw [h0]; rfl
      rw [this, cond_true]
      exact ⟨0, rfl, fun _ => rfl, fun h => absurd h0 h⟩
    · have : ((r.length : Int) == 0) = false := by rw [beq_eq_false_iff_ne]; omega
      have hlt : r.length - 1 < (fs b r).length := by omega
      have ht := hvs.2.1 _ (List.getElem_mem hlt)
      rw [this, cond_false, fa_ok b hb' r hr hin N (by omega), Option.bind_some, hlen, w64_id (by omega) (by omega), show (r.length : Int) - 1 = ((r.length - 1 : Nat) : Int) by omega, idx_lt _ _ hlt, Option.bind_some, w64_id (x := (fs b r)[r.length - 1].tick + b.rise) (by omega) (by omega), w64_id (by omega) (by omega)]
      exact ⟨_, rfl, fun h => absurd h h0, fun _ s hs => by rw [List.getElem?_eq_getElem hlt] at hs; obtain rfl := Option.some.inj hs; rfl⟩
  rw [e1, Option.bind_some, e2, Option.bind_some, fastest_ok b hb' r hr hin N (by omega), Option.bind_some, hE, Option.bind_some]
  have c1 : (((fs b r).length : Int) != (r.length : Int)) = false := by rw [hlen]; simp
  have hfirst : (andO (decide (((fs b r).length : Int) > 0)) ((idx (fs b r) 0).bind fun e44 => some (e44.tick != 0))) = some false := by
    by_cases h0 : (fs b r).length = 0
    · rw [decide_eq_false (by omega)]; rfl
    · have hlt : 0 < (fs b r).length := by omega
      have hi : idx (fs b r) 0 = some (fs b r)[0] := idx_lt _ 0 hlt
      rw [decide_eq_true (by omega), andO_true, hi, Option.bind_some, hF.2.2.2.1 _ (List.getElem?_eq_getElem hlt)]
      rfl
  simp only [bne_self_eq_false, c1, orO_some, Bool.or_self, Option.bind_some, ss_ok b hb' _ hvs N (by omega), Bool.not_true, cond_false, orO_false, cj_ok b hb' _ hvs N (by omega), hF.jams hb', hfirst, withK_eq]
  have hL1 := law_l1 b hb' r hr hin
  have hL1' := fun kj => hL1 kj r.length 0 N (by omega) (by omega)
  simp only [show ((0 : Nat) : Int) = 0 from rfl] at hL1'
  rw [hL1']
  by_cases h0 : r.length = 0
  · have : (((fs b r).length : Int) == 0) = true := by rw [hlen, h0]; rfl
    rw [this, cond_true, hE0 h0]; rfl
  · have : (((fs b r).length : Int) == 0) = false := by rw [beq_eq_false_iff_ne]; omega
    rw [this, cond_false]
    have hlt : r.length - 1 < (fs b r).length := by omega
    have hE2 := hE1 h0 _ (List.getElem?_eq_getElem hlt)
    have hlast : (fs b r).getLast? = some (fs b r)[r.length - 1] := by
      rw [List.getLast?_eq_getElem?, List.getElem?_eq_getElem (by omega)]
      congr 2; omega
    have ht := hvs.2.1 _ (List.getElem_mem hlt)
    have htl := hF.2.2.2.2.2.2.2 _ hlast
    have ht12 := hF.2.2.2.2.2.1
    have hmax : ∀ s ∈ fs b r, s.tick ≤ (fs b r)[r.length - 1].tick := fun s hs => by have := hF.1 s hs; omega
    rw [decide_eq_false (by omega : ¬ E < 1), decide_eq_false (by omega : ¬ E > 1000000)]
    simp only [Bool.or_self, cond_false]
    obtain ⟨v1, a1, a2, a4, a3⟩ := air_ok b hb' _ hvs (by omega) E (by omega) N (by omega)
    obtain ⟨v2, d1, d2, d4, d3⟩ := air_ok b hb' _ hvs (by omega) (E - 1) (by omega) N (by omega)
    rw [a1, Option.bind_some, w64_id (x := E - 1) (by omega) (by omega), d1, Option.bind_some]
    have hv1 : v1.1 = [] := by
      have hnone : ups b E (List.replicate 60 false) (fs b r) = List.replicate 60 false := ups_none b E _ _ fun s hs => by
        have := hmax s hs
        unfold up1
        rw [Bool.and_eq_false_iff]; right
        exact decide_eq_false (by omega)
      cases hv : v1.1 with
      | nil => rfl
      | cons y ys =>
        obtain ⟨k, _, hk⟩ := (a3 y).1 (by rw [hv]; exact List.mem_cons_self)
        rw [hnone, List.getElem?_replicate] at hk
        split at hk <;> simp at hk
    have hbl : (fs b r)[r.length - 1].bar = r[r.length - 1]'(by omega) := by
      have := fs_bar b hb' r hin
      have h2 : ((fs b r).map Stroke.bar)[r.length - 1]? = r[r.length - 1]? := by rw [this]
      rw [List.getElem?_map, List.getElem?_eq_getElem hlt, List.getElem?_eq_getElem (by omega)] at h2
      simpa using h2
    have hmem : r[r.length - 1]'(by omega) ∈ v2.1 := by
      refine (d3 _).2 ⟨(r[r.length - 1]'(by omega)).toNat, by have := hin _ (List.getElem_mem (by omega : r.length - 1 < r.length)); omega, ?_⟩
      rw [← hbl]
      refine ups_mem b _ _ _ _ (List.getElem_mem hlt) ?_ ?_
      · unfold up1
        rw [Bool.and_eq_true]
        exact ⟨decide_eq_true (by omega), decide_eq_true (by omega)⟩
      · rw [List.length_replicate]; omega
    rw [a2, d2, hv1]
    have hr1 : w64 ((r.length : Int) - 1) = ((r.length - 1 : Nat) : Int) := by rw [w64_id (by omega) (by omega)]; omega
    rw [hr1, idx_lt r (r.length - 1) (by omega), Option.bind_some, has_ok v2.1 _ (by omega) N (by omega), decide_eq_true hmem]
    simp only [bne_self_eq_false, List.length_nil, Option.bind_some, Bool.not_true, Bool.or_self]
    have hzz : (((0 : Nat) : Int) != 0) = false := rfl
    rw [hzz]
    simp only [Bool.or_self, orO_false, Option.bind_some, cond_false]
    obtain ⟨s1, s2⟩ := slow_ok b hb' r hr hin N (by omega)
    by_cases h2 : r.length < 2
    · rw [s1 h2, Option.bind_some, decide_eq_true (by omega), cond_true]; rfl
    · obtain ⟨k, k1, k2, k3, k4⟩ := s2 (by omega)
      have hk1 : w64 ((k : Int) - 1) = ((k - 1 : Nat) : Int) := by rw [w64_id (by omega) (by omega)]; omega
      have hwp : wt b (r[k - 1]'(by omega)) (r[k]'(by omega)) = wp b r k := by unfold wp; rw [at_r (by omega : k - 1 < r.length), at_r k3]
      rw [k1, Option.bind_some, decide_eq_false (by omega : ¬ (r.length : Int) < 2), cond_false]
      simp only [bne_self_eq_false]
      rw [decide_eq_false (by omega : ¬ (k : Int) < 1), decide_eq_false (by omega : ¬ (k : Int) ≥ (r.length : Int))]
      simp only [Bool.or_self, cond_false]
      rw [hk1, idx_lt r (k - 1) (by omega), Option.bind_some, idx_lt r k k3, Option.bind_some, must_ok b hb' _ _ (hin _ (List.getElem_mem _)) (hin _ (List.getElem_mem _)), Option.bind_some, hwp]
      have := law_l2 b hb' r hr hin k k2 k3 k4 (some true) (r.length - 1) 1 N (by omega) (by omega) (by omega)
      exact this
end Go.Proofs.Ytdkhpbfciajaeaa
