/-
  Plain lemmas on these functions. No conditions but those that each states.
-/
import Derived.Test.YtimcachjcocjmaaFnDrillSetsP9
namespace Go.Proofs.Ytimcachjcocjmaa
set_option linter.unusedVariables false
set_option linter.unusedSimpArgs false
/-! The spec's letters, the sums, and the law. -/
theorem lets_cons (L : List Drill) (x : Nat) (xs : List Nat) (h : x < L.length) : lets L (x :: xs) = L[x].letters ++ lets L xs := by
  simp [lets, List.getElem?_eq_getElem h]
theorem trn_l1 (L : List Drill) (hL : GD L) (sel : List Nat) (hs : Ix sel L.length) (c : UInt8) : ∀ (n i N : Nat), i + n = sel.length → n + 300 < N → s_l21Trains_l1 (some false) L (ints sel) c N (i : Int) = some (decide (c ∈ lets L (sel.drop i))) := by
  have hs1 := hs.1
  intro n
  induction n with
  | zero =>
    intro i N hi hN
    obtain ⟨N, rfl⟩ := pos_fuel (show 0 < N by omega)
    have hz : ¬ (i : Int) < ((ints sel).length : Int) := by rw [ints_len]; omega
    simp only [s_l21Trains_l1, hz, decide_false, cond_false]
    rw [List.drop_eq_nil_of_le (by omega)]
    simp [lets]
  | succ n ih =>
    intro i N hi hN
    obtain ⟨N, rfl⟩ := pos_fuel (show 0 < N by omega)
    have hlt : i < sel.length := by omega
    have hz : (i : Int) < ((ints sel).length : Int) := by rw [ints_len]; omega
    have hix := hs.2 _ (List.getElem_mem hlt)
    have hd : idx L (sel[i] : Int) = some L[sel[i]] := idx_lt L _ hix
    have hg := hL.2 _ (List.getElem_mem hix)
    obtain ⟨v, e, h1, _⟩ := ix5_mem L[sel[i]].letters c (by omega) N (by omega)
    simp only [s_l21Trains_l1, hz, decide_true, cond_true]
    rw [ints_get sel i hlt, Option.bind_some, hd, Option.bind_some, e, Option.bind_some, h1, w64_nat i (by omega), ih (i + 1) N (by omega) (by omega), List.drop_eq_getElem_cons hlt, lets_cons L _ _ hix]
    by_cases hm : c ∈ L[sel[i]].letters
    · simp [hm]
    · simp [hm]
theorem sleft_l1 (L : List Drill) (hL : GD L) (sel : List Nat) (hs : Ix sel L.length) (ls : Str) (hl : ls.length ≤ 30) (kj : List UInt8 → Option Str) (hk : ∀ l, kj l = some l) : ∀ (n i N : Nat) (o : Str), i + n = ls.length → n + 500 < N → o.length ≤ i → s_l21Left_l1 kj L (ints sel) ls N o (i : Int) = some (o ++ lft (lets L sel) (ls.drop i)) := by
  have hs1 := hs.1
  intro n
  induction n with
  | zero =>
    intro i N o hi hN h0
    obtain ⟨N, rfl⟩ := pos_fuel (show 0 < N by omega)
    have hz : ¬ (i : Int) < (ls.length : Int) := by omega
    simp only [s_l21Left_l1, hz, decide_false, cond_false, hk]
    rw [List.drop_eq_nil_of_le (by omega)]
    simp [lft]
  | succ n ih =>
    intro i N o hi hN h0
    obtain ⟨N, rfl⟩ := pos_fuel (show 0 < N by omega)
    have hz : (i : Int) < (ls.length : Int) := by omega
    have hlt : i < ls.length := by omega
    have ht : s_l21Trains N L (ints sel) ls[i] = some (decide (ls[i] ∈ lets L sel)) := by
      unfold s_l21Trains
      simp only [withK_eq]
      have e := trn_l1 L hL sel hs ls[i] sel.length 0 N (by omega) (by omega)
      rw [List.drop_zero] at e
      exact e
    simp only [s_l21Left_l1, hz, decide_true, cond_true, withK_eq]
    rw [idx_lt ls i hlt, Option.bind_some, ht, Option.bind_some, Option.bind_some, app_some _ _ (by unfold LIM; simp; omega), Option.bind_some, w64_nat i (by omega), List.drop_eq_getElem_cons hlt, lft_cons]
    by_cases hm : ls[i] ∈ lets L sel
    · simp only [hm, decide_true, Bool.not_true, cond_false, if_true]
      exact ih (i + 1) N o (by omega) (by omega) (by omega)
    · simp only [hm, decide_false, Bool.not_false, cond_true, if_false]
      rw [ih (i + 1) N _ (by omega) (by omega) (by simp; omega), List.append_assoc, List.singleton_append]
theorem srs_l1 (l : List Int) (n : Nat) (hn : n ≤ 1000) (h : RI l n) : ∀ (q i N : Nat), i + q = l.length → q < N → s_l00Rises_l1 (some true) l 0 ((n : Int) - 1) N (i : Int) = some true := by
  intro q
  induction q with
  | zero =>
    intro i N hi hN
    obtain ⟨N, rfl⟩ := pos_fuel hN
    have hz : ¬ (i : Int) < (l.length : Int) := by omega
    simp only [s_l00Rises_l1, hz, decide_false, cond_false]
  | succ q ih =>
    intro i N hi hN
    obtain ⟨N, rfl⟩ := pos_fuel hN
    have hz : (i : Int) < (l.length : Int) := by omega
    have hlt : i < l.length := by omega
    obtain ⟨v1, v2⟩ := h.2.1 i hlt
    have hb : (decide (l[i] ≥ 0) && decide (l[i] ≤ (n : Int) - 1)) = true := by
      have : l[i] ≤ (n : Int) - 1 := by omega
      simp [v1, this]
    have h1 := h.1
    simp only [s_l00Rises_l1, hz, decide_true, cond_true, s_l00In]
    rw [idx_lt l i hlt]
    simp only [Option.bind_some, andO_some, hb, Bool.not_true, orO_false]
    have hA : (andO (decide ((i : Int) > 0)) ((idx l (w64 ((i : Int) - 1))).bind fun e23 => some (decide (e23 ≥ l[i])))) = some false := by
      by_cases h0 : i = 0
      · subst h0; rfl
      · have hp : decide ((i : Int) > 0) = true := decide_eq_true (by omega)
        have e : w64 ((i : Int) - 1) = ((i - 1 : Nat) : Int) := by rw [w64_id (by omega) (by omega)]; omega
        rw [hp, e, idx_lt l (i - 1) (by omega)]
        have h3 := h.2.2 (i - 1) (by omega)
        have h4 : l[i - 1 + 1]'(by omega) = l[i] := by congr 1; omega
        rw [h4] at h3
        simp only [andO_true, Option.bind_some]
        refine congrArg some (decide_eq_false ?_)
        omega
    rw [hA]
    simp only [Option.bind_some, cond_false]
    rw [w64_nat i (by omega)]
    exact ih (i + 1) N (by omega) (by omega)
theorem sll_ok (L : List Drill) (h : GL L) (p : Nat → Bool) (ls : Str) (cs : List Int) (hn : NG ls cs) (N : Nat) (hN : 1000 < N) : s_LettersLeft N L (ints ((List.range L.length).filter p)) ls = some (lft (lets L ((List.range L.length).filter p)) ls, 0) := by
  have h6 := h.1
  have hri := filter_ri L.length (by omega) p
  have hix : Ix ((List.range L.length).filter p) L.length := ⟨by have := hri.1; rw [ints_len] at this; exact this, fun i hi => List.mem_range.1 (List.mem_filter.1 hi).1⟩
  have hl := hn.2.1
  unfold s_LettersLeft s_l21Some s_l00Rises s_l21Left
  simp only [withK_eq]
  rw [sok_ok L h N (by omega), (needed_ok hn N (by omega)).2, w64_id (x := (L.length : Int) - 1) (by omega) (by omega)]
  have e1 := srs_l1 _ L.length (by omega) hri (ints ((List.range L.length).filter p)).length 0 N (by omega) (by have := hri.1; omega)
  rw [show ((0 : Nat) : Int) = 0 from rfl] at e1
  have e2 := sleft_l1 L h.gd _ hix ls (by omega) (fun l9 => some l9) (fun _ => rfl) ls.length 0 N [] (by omega) (by omega) (by simp)
  rw [show ((0 : Nat) : Int) = 0 from rfl, List.drop_zero, List.nil_append] at e2
  rw [e1, e2]
  rfl
theorem all_l2 (L : List Drill) (hl : L.length ≤ 100) (kj : List Int → Option Bool) : ∀ (n i N : Nat), i + n = L.length → n < N → w_FnDrillSets_l2 kj L N (ints (List.range i)) (i : Int) = kj (ints (List.range L.length)) := by
  intro n
  induction n with
  | zero =>
    intro i N hi hN
    obtain ⟨N, rfl⟩ := pos_fuel hN
    have hz : ¬ (i : Int) < (L.length : Int) := by omega
    simp only [w_FnDrillSets_l2, hz, decide_false, cond_false]
    rw [show i = L.length by omega]
  | succ n ih =>
    intro i N hi hN
    obtain ⟨N, rfl⟩ := pos_fuel hN
    have hz : (i : Int) < (L.length : Int) := by omega
    simp only [w_FnDrillSets_l2, hz, decide_true, cond_true]
    rw [app_some _ _ (by unfold LIM; rw [ints_len]; simp; omega), Option.bind_some, w64_nat i (by omega)]
    have : ints (List.range i) ++ [(i : Int)] = ints (List.range (i + 1)) := by simp [ints, List.range_succ]
    rw [this]
    exact ih (i + 1) N (by omega) (by omega)
def unc (T : Str) (ls : Str) (cs : List Int) : Int := ((ls.zip cs).map fun p => if p.1 ∈ T then 0 else p.2).sum
theorem unc_cons (T : Str) (x : UInt8) (c : Int) (xs : Str) (cs : List Int) : unc T (x :: xs) (c :: cs) = (if x ∈ T then 0 else c) + unc T xs cs := by simp [unc]
theorem cov_unc (T : Str) : ∀ (ls : Str) (cs : List Int), ls.length = cs.length → cov T ls cs + unc T ls cs = cs.sum := by
  intro ls
  induction ls with
  | nil => intro cs h; have : cs = [] := List.eq_nil_of_length_eq_zero h.symm; subst this; rfl
  | cons x xs ih =>
    intro cs h
    match cs, h with
    | c :: cs, h =>
      have := ih cs (by simpa using h)
      rw [cov_cons, unc_cons, List.sum_cons]
      split <;> omega
theorem w_l1 (T : Str) (r13 : Str × List Int) (hn : NG r13.1 r13.2) (r63 : Str × Int) (hr : r63.1 = lft T r13.1) (kj : Int → Int → Option Bool) : ∀ (n i N at_ : Nat) (m : Int), i + n = r13.1.length → n < N → at_ ≤ r63.1.length → r63.1.drop at_ = lft T (r13.1.drop i) → 0 ≤ m → m ≤ 1000 * i → w_FnDrillSets_l1 kj r13 r63 N m (at_ : Int) (i : Int) = kj (m + unc T (r13.1.drop i) (r13.2.drop i)) (r63.1.length : Int) ∧ 0 ≤ unc T (r13.1.drop i) (r13.2.drop i) ∧ unc T (r13.1.drop i) (r13.2.drop i) ≤ 1000 * n := by
  have h1 := hn.1
  have h2 := hn.2.1
  have hleft : r63.1.length ≤ 14 := by
    rw [hr]
    have := List.length_filter_le (fun c => !decide (c ∈ T)) r13.1
    unfold lft; omega
  have hallT : ∀ x ∈ r63.1, x ∉ T := fun x hx => by
    rw [hr] at hx
    have := (List.mem_filter.1 hx).2
    simpa using this
  intro n
  induction n with
  | zero =>
    intro i N at_ m hi hN ha hd h0 hm
    obtain ⟨N, rfl⟩ := pos_fuel hN
    have hz : ¬ (i : Int) < (r13.1.length : Int) := by omega
    simp only [w_FnDrillSets_l1, hz, decide_false, cond_false]
    rw [List.drop_eq_nil_of_le (by omega : r13.1.length ≤ i)] at hd ⊢
    have hlen : (r63.1.drop at_).length = 0 := by rw [hd]; rfl
    rw [List.length_drop] at hlen
    have : at_ = r63.1.length := by omega
    rw [this]
    simp [unc]
  | succ n ih =>
    intro i N at_ m hi hN ha hd h0 hm
    obtain ⟨N, rfl⟩ := pos_fuel hN
    have hz : (i : Int) < (r13.1.length : Int) := by omega
    have hlt : i < r13.1.length := by omega
    have hltc : i < r13.2.length := by omega
    have hci := hn.2.2.2.2 _ (List.getElem_mem hltc)
    simp only [w_FnDrillSets_l1, hz, decide_true, cond_true, withK_eq]
    rw [idx_lt r13.1 i hlt, idx_lt r13.2 i hltc, w64_nat i (by omega)]
    rw [List.drop_eq_getElem_cons hlt, lft_cons] at hd
    rw [List.drop_eq_getElem_cons hlt, List.drop_eq_getElem_cons hltc, unc_cons]
    simp only [Option.bind_some]
    by_cases hm' : r13.1[i] ∈ T
    · rw [if_pos hm'] at hd
      have hf : (andO (decide ((at_ : Int) < (r63.1.length : Int))) ((idx r63.1 (at_ : Int)).bind fun c81 => some (c81 == r13.1[i]))) = some false := by
        by_cases hat : at_ < r63.1.length
        · have hp : decide ((at_ : Int) < (r63.1.length : Int)) = true := decide_eq_true (by omega)
          rw [hp, idx_lt r63.1 at_ hat]
          simp only [andO_true, Option.bind_some]
          refine congrArg some ?_
          rw [beq_eq_false_iff_ne]
          intro he
          exact hallT _ (List.getElem_mem hat) (by rw [he]; exact hm')
        · have hp : decide ((at_ : Int) < (r63.1.length : Int)) = false := decide_eq_false (by omega)
          rw [hp]; rfl
      obtain ⟨e, g1, g2⟩ := ih (i + 1) N at_ m (by omega) (by omega) ha hd h0 (by omega)
      rw [hf]
      simp only [Option.bind_some, cond_false, hm', if_true]
      rw [e]
      exact ⟨by rw [Int.zero_add], by omega, by omega⟩
    · rw [if_neg hm'] at hd
      have hat : at_ < r63.1.length := by
        have hlen : (r63.1.drop at_).length = (r13.1[i] :: lft T (r13.1.drop (i + 1))).length := by rw [hd]
        rw [List.length_drop] at hlen
        simp at hlen
        omega
      have hc2 := hd
      rw [List.drop_eq_getElem_cons hat] at hc2
      have he := (List.cons.inj hc2).1
      have hp : decide ((at_ : Int) < (r63.1.length : Int)) = true := decide_eq_true (by omega)
      rw [hp, idx_lt r63.1 at_ hat]
      simp only [andO_true, Option.bind_some, he, beq_self_eq_true, cond_true, hm', if_false]
      rw [w64_nat at_ (by omega), w64_id (x := m + r13.2[i]) (by omega) (by omega)]
      obtain ⟨e, g1, g2⟩ := ih (i + 1) N (at_ + 1) (m + r13.2[i]) (by omega) (by omega) (by omega) (List.cons.inj hc2).2 (by omega) (by omega)
      rw [e]
      exact ⟨by rw [Int.add_assoc], by omega, by omega⟩
theorem sum_l1 (l : List Int) (hl : l.length ≤ 100) (hc : ∀ x ∈ l, 0 ≤ x ∧ x ≤ 1000) (kj : Int → Option Int) : ∀ (n i N : Nat) (s : Int), i + n = l.length → n < N → 0 ≤ s → s ≤ 1000 * i → w_a2Sum_l1 kj l N s (i : Int) = kj (s + (l.drop i).sum) := by
  intro n
  induction n with
  | zero =>
    intro i N s hi hN h0 h1
    obtain ⟨N, rfl⟩ := pos_fuel hN
    have hz : ¬ (i : Int) < (l.length : Int) := by omega
    simp only [w_a2Sum_l1, hz, decide_false, cond_false]
    rw [List.drop_eq_nil_of_le (by omega)]
    simp
  | succ n ih =>
    intro i N s hi hN h0 h1
    obtain ⟨N, rfl⟩ := pos_fuel hN
    have hz : (i : Int) < (l.length : Int) := by omega
    have hlt : i < l.length := by omega
    have hci := hc _ (List.getElem_mem hlt)
    simp only [w_a2Sum_l1, hz, decide_true, cond_true]
    rw [idx_lt l i hlt, Option.bind_some, w64_nat i (by omega), w64_id (x := s + l[i]) (by omega) (by omega), ih (i + 1) N _ (by omega) (by omega) (by omega) (by omega), List.drop_eq_getElem_cons hlt, List.sum_cons, Int.add_assoc]
theorem sum_ok (l : List Int) (hl : l.length ≤ 100) (hc : ∀ x ∈ l, 0 ≤ x ∧ x ≤ 1000) (N : Nat) (hN : 200 < N) : w_a2Sum N l = some l.sum := by
  unfold w_a2Sum
  simp only [withK_eq]
  have e := sum_l1 l hl hc (fun s => some s) l.length 0 N 0 (by omega) (by omega) (by omega) (by omega)
  rw [show ((0 : Nat) : Int) = 0 from rfl] at e
  rw [e]
  simp
/-- what is left is no more with more drills -/
theorem lets_mono (L : List Drill) (s1 s2 : List Nat) (h : ∀ i ∈ s1, i ∈ s2) (c : UInt8) (hc : c ∈ lets L s1) : c ∈ lets L s2 := by
  unfold lets at *
  obtain ⟨i, hi, hm⟩ := List.mem_flatMap.1 hc
  exact List.mem_flatMap.2 ⟨i, h i hi, hm⟩
theorem lft_nil (T1 T2 : Str) (h : ∀ c, c ∈ T1 → c ∈ T2) (ls : Str) (h1 : lft T1 ls = []) : lft T2 ls = [] := by
  unfold lft at *
  rw [List.filter_eq_nil_iff] at *
  intro a ha
  have := h1 a ha
  simp at this ⊢
  exact h a this
theorem law_FnDrillSets (code more : List UInt8) (_ : wfL wfByte code) (_ : wfL wfByte more) : ∃ N, w_FnDrillSets N code more = some true := by
  refine ⟨3000, ?_⟩
  obtain ⟨N, hN⟩ : ∃ N, N = 3000 := ⟨_, rfl⟩
  rw [← hN]
  unfold w_FnDrillSets
  have hw : ∃ q, w_a2Long code more = some q := by
    unfold w_a2Long
    simp only [orO_some, Option.bind_some]
    exact ⟨_, rfl⟩
  obtain ⟨q, hq⟩ := hw
  rw [hq, Option.bind_some]
  cases q
  case true => rfl
  rw [cond_false]
  obtain ⟨L, e1, hL⟩ := drills_ok code N (by omega)
  obtain ⟨nd, e2, hn⟩ := needs_ok more N (by omega)
  obtain ⟨mx, e3, x0, x1⟩ := at_ok more
  have h6 := hL.1
  obtain ⟨p, e4⟩ := some_ok more L.length h6 N (by omega)
  obtain ⟨j, j1, j2, hj⟩ := bits_ex L.length h6 p
  rw [← hj] at e4
  have hn1 := hn.1
  have hn2 := hn.2.1
  have hn5 := hn.2.2.2.2
  have hpow : 2 ^ L.length ≤ 64 := by
    have : (2 : Nat) ^ L.length ≤ 2 ^ 6 := Nat.pow_le_pow_right (by omega) h6
    omega
  have hpos : 1 ≤ 2 ^ L.length := Nat.one_le_two_pow
  have hsh := shl_ok L.length (by omega)
  have hixb := fun k => bits_ix k L.length h6
  have hrib : ∀ k, RI (ints (bits k L.length)) L.length := fun k => filter_ri L.length (by omega) (fun i => Nat.testBit k i)
  -- the functions at a choice
  have hMin : ∀ k, i_MinutesOf N L (ints (bits k L.length)) = some (mins L (bits k L.length), 0) := fun k => by
    unfold i_MinutesOf
    rw [vds_ok L hL N (by omega), Option.bind_some, areIx_ok _ L.length (by omega) (hrib k) N (by omega), Option.bind_some, (mins_ok L hL.gd _ (hixb k) N (by omega)).1]
    rfl
  have hCov : ∀ k, i_CoveredBy N L (ints (bits k L.length)) nd.1 nd.2 = some (cov (lets L (bits k L.length)) nd.1 nd.2, 0) := fun k => by
    unfold i_CoveredBy
    rw [vds_ok L hL N (by omega), Option.bind_some, vn_ok hn N (by omega), areIx_ok _ L.length (by omega) (hrib k) N (by omega), (cov_ok L hL.gd _ (hixb k) nd.1 nd.2 hn1 (by omega) hn5 N (by omega)).1]
    rfl
  have hLeft : ∀ k, i_LettersLeft N L (ints (bits k L.length)) nd.1 = some (lft (lets L (bits k L.length)) nd.1, 0) := fun k => by
    unfold i_LettersLeft
    rw [vds_ok L hL N (by omega), Option.bind_some, (needed_ok hn N (by omega)).1, areIx_ok _ L.length (by omega) (hrib k) N (by omega), left_ok L hL.gd _ (hixb k) nd.1 (by omega) N (by omega)]
    rfl
  -- the best
  obtain ⟨bl, ba, bm, hB, eB⟩ := best_l1 L hL.gd nd.1 nd.2 hn1 (by omega) hn5 mx x0 (2 ^ L.length) hpow (fun l x => some (l, x, 0)) (2 ^ L.length) 0 N [] (-1) 0 (by omega) (by omega) (.inl ⟨rfl, rfl, rfl, rfl⟩)
  rw [show ((0 : Nat) : Int) = 0 from rfl] at eB
  have hBest : i_BestDrills N L nd.1 nd.2 mx = some (bl, ba, 0) := by
    unfold i_BestDrills i_between
    have hb : (decide (mx ≥ 0) && decide (mx ≤ 6000)) = true := by
      have : mx ≤ 6000 := by omega
      simp [x0, this]
    rw [vds_ok L hL N (by omega), Option.bind_some, vn_ok hn N (by omega)]
    simp only [Option.bind_some, Bool.not_true, orO_false, cond_false, andO_some, hb, withK_eq, hsh]
    exact eB
  rcases hB with ⟨h0, _⟩ | ⟨k, k1, rfl, rfl, rfl, k5, k6⟩
  · omega
  -- the fewest
  obtain ⟨fl, ff, hF, eF⟩ := few_l1 L hL.gd nd.1 (by omega) (2 ^ L.length) hpow (fun l f => bif !f then some ([], 3) else some (l, 0)) (2 ^ L.length) 0 N [] false (by omega) (by omega) (.inl ⟨rfl, fun j hj => by omega⟩)
  rw [show ((0 : Nat) : Int) = 0 from rfl] at eF
  have hFew : i_FewestDrills N L nd.1 = (bif !ff then some ([], 3) else some (fl, 0)) := by
    unfold i_FewestDrills
    rw [vds_ok L hL N (by omega), Option.bind_some, (needed_ok hn N (by omega)).1]
    simp only [Option.bind_some, Bool.not_true, orO_false, cond_false, withK_eq, hsh]
    exact eF
  -- all
  have hall : (List.range L.length).filter (fun _ => true) = List.range L.length := List.filter_eq_self.2 fun _ _ => rfl
  have hSpec := sll_ok L hL (fun _ => true) nd.1 nd.2 hn N (by omega)
  rw [hall] at hSpec
  obtain ⟨ka, ka1, ka2, hka⟩ := bits_ex L.length h6 (fun _ => true)
  rw [hall] at hka
  rw [e1, Option.bind_some, e2, Option.bind_some, e3, Option.bind_some, hBest, Option.bind_some, hMin k, Option.bind_some, hCov k, Option.bind_some, e4, Option.bind_some, hMin j, Option.bind_some, hCov j, Option.bind_some]
  have hd1 : decide (mins L (bits k L.length) > mx) = false := decide_eq_false (by omega)
  have hd2 : (decide (mins L (bits j L.length) ≤ mx) && (decide (cov (lets L (bits j L.length)) nd.1 nd.2 > cov (lets L (bits k L.length)) nd.1 nd.2) || (cov (lets L (bits j L.length)) nd.1 nd.2 == cov (lets L (bits k L.length)) nd.1 nd.2 && decide (mins L (bits j L.length) < mins L (bits k L.length))))) = false := by
    cases hle : decide (mins L (bits j L.length) ≤ mx)
    · rfl
    · have hle := of_decide_eq_true hle
      rcases k6 j j1 hle with g | ⟨g1, g2⟩
      · have c1 : decide (cov (lets L (bits j L.length)) nd.1 nd.2 > cov (lets L (bits k L.length)) nd.1 nd.2) = false := decide_eq_false (by omega)
        have c2 : (cov (lets L (bits j L.length)) nd.1 nd.2 == cov (lets L (bits k L.length)) nd.1 nd.2) = false := by rw [beq_eq_false_iff_ne]; omega
        rw [c1, c2]; rfl
      · have c1 : decide (cov (lets L (bits j L.length)) nd.1 nd.2 > cov (lets L (bits k L.length)) nd.1 nd.2) = false := decide_eq_false (by omega)
        have c2 : decide (mins L (bits j L.length) < mins L (bits k L.length)) = false := decide_eq_false (by omega)
        rw [c1, c2]; simp
  simp only [bne_self_eq_false, orO_some, andO_some, Option.bind_some, Bool.or_self, hd1, hd2, cond_false]
  rw [hLeft j, Option.bind_some]
  simp only [bne_self_eq_false, cond_false, withK_eq]
  obtain ⟨eW, u0, u1⟩ := w_l1 (lets L (bits j L.length)) nd hn (lft (lets L (bits j L.length)) nd.1, 0) rfl (fun (x66 : Int) (x67 : Int) =>
      (orO (x67 != (List.length (lft (lets L (bits j L.length)) nd.1) : Int)) ((w_a2Sum N nd.2).bind fun r91 => some ((w64 (cov (lets L (bits j L.length)) nd.1 nd.2 + x66)) != r91))).bind fun t88 =>
      bif t88 then some false else
      (i_FewestDrills N L nd.1).bind fun r94 =>
      w_FnDrillSets_l2 (fun (l98 : List Int) =>
        (s_LettersLeft N L l98 nd.1).bind fun r110 =>
        bif (r94.2 != 0) then
        some (r94.2 == 3 && r110.2 == 0 && r110.1 != [])
        else
        (i_LettersLeft N L r94.1 nd.1).bind fun r119 =>
        some (r119.2 == 0 && r119.1 == [] && r110.1 == [] && (lft (lets L (bits j L.length)) nd.1 != [] || decide ((List.length r94.1 : Int) ≤ (List.length (ints (bits j L.length)) : Int))))) L N [] 0) nd.1.length 0 N 0 0 (by omega) (by omega) (by omega) (by simp) (by omega) (by omega)
  rw [show ((0 : Nat) : Int) = 0 from rfl] at eW
  refine eW.trans ?_
  simp only [List.drop_zero, Int.zero_add] at u0 u1 ⊢
  obtain ⟨_, c0, c1⟩ := cov_ok L hL.gd _ (hixb j) nd.1 nd.2 hn1 (by omega) hn5 N (by omega)
  rw [sum_ok nd.2 (by omega) hn5 N (by omega), Option.bind_some, w64_id (x := cov (lets L (bits j L.length)) nd.1 nd.2 + unc (lets L (bits j L.length)) nd.1 nd.2) (by omega) (by omega), cov_unc _ _ _ hn1]
  simp only [bne_self_eq_false, orO_some, Bool.or_self, Option.bind_some, cond_false]
  rw [hFew]
  have hl2 := fun kj => all_l2 L (by omega) kj L.length 0 N (by omega) (by omega)
  rw [show ints (List.range 0) = [] from rfl, show ((0 : Nat) : Int) = 0 from rfl] at hl2
  rcases hF with ⟨rfl, h2⟩ | ⟨rfl, kf, kf1, rfl, kf3, kf4⟩
  · simp only [Bool.not_false, cond_true, Option.bind_some]
    rw [hl2, hSpec]
    have hne := h2 ka ka1
    rw [hka] at hne
    have hb : (lft (lets L (List.range L.length)) nd.1 != []) = true := by simpa using hne
    simp [hb]
  · simp only [Bool.not_true, cond_false, Option.bind_some]
    rw [hl2, hSpec]
    have hz := lft_nil _ (lets L (List.range L.length)) (fun c hc => lets_mono L (bits kf L.length) (List.range L.length) (fun i hi => (List.mem_filter.1 hi).1) c hc) nd.1 kf3
    simp only [Option.bind_some, bne_self_eq_false, cond_false]
    rw [hLeft kf, Option.bind_some, hz, kf3]
    have hor : ((lft (lets L (bits j L.length)) nd.1 != []) || decide (((ints (bits kf L.length)).length : Int) ≤ ((ints (bits j L.length)).length : Int))) = true := by
      cases hh : (lft (lets L (bits j L.length)) nd.1 != [])
      · have hnil : lft (lets L (bits j L.length)) nd.1 = [] := by simpa using hh
        have := kf4 j j1 hnil
        rw [ints_len] at this
        rw [Bool.false_or]
        refine decide_eq_true ?_
        rw [ints_len, ints_len]
        omega
      · rfl
    rw [hor]
    rfl
end Go.Proofs.Ytimcachjcocjmaa
