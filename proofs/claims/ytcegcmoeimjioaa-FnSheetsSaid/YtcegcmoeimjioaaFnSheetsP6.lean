/-
  Plain lemmas on these functions. No conditions but those that each states.
-/
import Derived.Test.YtcegcmoeimjioaaFnSheetsP5
namespace Go.Proofs.Ytcegcmoeimjioaa
set_option linter.unusedVariables false
set_option linter.unusedSimpArgs false
/-! Sums, and the law. -/
theorem sum_l1 (l : List Int) (hl : l.length ≤ 100) (hc : ∀ x ∈ l, 0 ≤ x ∧ x ≤ 100000) (kj : Int → Option Int) : ∀ (n i N : Nat) (s : Int), i + n = l.length → n < N → 0 ≤ s → s ≤ 100000 * i → w_a2Sum_l1 kj l N s (i : Int) = kj (s + (l.drop i).sum) := by
  intro n
  induction n with
  | zero =>
    intro i N s hi hN h0 h1
    obtain ⟨N, rfl⟩ := pos_fuel hN
    have hz : ¬ (i : Int) < (l.length : Int) := by omega
    simp only [w_a2Sum_l1, hz, decide_false, cond_false]
    rw [List.drop_eq_nil_of_le (by omega)]
    simp
  | succ n ih =>
    intro i N s hi hN h0 h1
    obtain ⟨N, rfl⟩ := pos_fuel hN
    have hz : (i : Int) < (l.length : Int) := by omega
    have hlt : i < l.length := by omega
    have hci := hc _ (List.getElem_mem hlt)
    simp only [w_a2Sum_l1, hz, decide_true, cond_true]
    rw [idx_lt l i hlt, Option.bind_some, w64_nat i (by omega), w64_id (x := s + l[i]) (by omega) (by omega), ih (i + 1) N _ (by omega) (by omega) (by omega) (by omega), List.drop_eq_getElem_cons hlt, List.sum_cons, Int.add_assoc]
theorem sum_ok (l : List Int) (hl : l.length ≤ 100) (hc : ∀ x ∈ l, 0 ≤ x ∧ x ≤ 100000) (N : Nat) (hN : 200 < N) : w_a2Sum N l = some l.sum := by
  unfold w_a2Sum
  simp only [withK_eq]
  have e := sum_l1 l hl hc (fun s => some s) l.length 0 N 0 (by omega) (by omega) (by omega) (by omega)
  rw [show ((0 : Nat) : Int) = 0 from rfl] at e
  rw [e]
  simp
theorem same_l1 (a : List Int) (ha : a.length ≤ 100) : ∀ (q i N : Nat), i + q = a.length → q < N → w_a2Same_l1 (some true) a a N (i : Int) = some true := by
  intro q
  induction q with
  | zero =>
    intro i N hi hN
    obtain ⟨N, rfl⟩ := pos_fuel hN
    have hz : ¬ (i : Int) < (a.length : Int) := by omega
    simp only [w_a2Same_l1, hz, decide_false, cond_false]
  | succ q ih =>
    intro i N hi hN
    obtain ⟨N, rfl⟩ := pos_fuel hN
    have hz : (i : Int) < (a.length : Int) := by omega
    simp only [w_a2Same_l1, hz, decide_true, cond_true]
    rw [idx_lt a i (by omega), Option.bind_some, Option.bind_some, bne_self_eq_false, cond_false, w64_nat i (by omega)]
    exact ih (i + 1) N (by omega) (by omega)
theorem same_ok (a : List Int) (ha : a.length ≤ 100) (N : Nat) (hN : 200 < N) : w_a2Same N a a = some true := by
  unfold w_a2Same
  simp only [bne_self_eq_false, cond_false, withK_eq]
  exact same_l1 a ha a.length 0 N (by omega) (by omega)
theorem hasnt_l1 (l : List Int) (v : Int) (hv : v ∉ l) (hl : l.length ≤ 1000) : ∀ (q i N : Nat), i + q = l.length → q < N → w_a2Has_l1 (some false) l v N (i : Int) = some false := by
  intro q
  induction q with
  | zero =>
    intro i N hi hN
    obtain ⟨N, rfl⟩ := pos_fuel hN
    have hz : ¬ (i : Int) < (l.length : Int) := by omega
    simp only [w_a2Has_l1, hz, decide_false, cond_false]
  | succ q ih =>
    intro i N hi hN
    obtain ⟨N, rfl⟩ := pos_fuel hN
    have hz : (i : Int) < (l.length : Int) := by omega
    have hlt : i < l.length := by omega
    have hne : (l[i] == v) = false := by
      rw [beq_eq_false_iff_ne]; intro e; exact hv (e ▸ List.getElem_mem hlt)
    simp only [w_a2Has_l1, hz, decide_true, cond_true]
    rw [idx_lt l i hlt, Option.bind_some, hne, cond_false, w64_nat i (by omega)]
    exact ih (i + 1) N (by omega) (by omega)
theorem hasnt_ok (l : List Int) (v : Int) (hv : v ∉ l) (hl : l.length ≤ 1000) (N : Nat) (hN : l.length < N) : w_a2Has N l v = some false := by
  unfold w_a2Has
  simp only [withK_eq]
  exact hasnt_l1 l v hv hl l.length 0 N (by omega) hN
theorem worn_l1 (code : List UInt8) (kj : List Int → Option (List Int)) (hk : ∀ l, kj l = some l) : ∀ (n N : Nat) (l : List Int) (a sd hi : Int), n < N → 0 ≤ a → a ≤ hi → hi + 2 * n ≤ 1000000 → l.length + n ≤ 6 → Bd 11 l → ∃ l', s_A2Worn_l1 kj code N a sd l (n : Int) = some l' ∧ l'.length ≤ 6 ∧ Bd 11 l' := by
  intro n
  induction n with
  | zero =>
    intro N l a sd hi hN h0 h1 h2 h3 h4
    obtain ⟨N, rfl⟩ := pos_fuel hN
    have hz : ¬ ((0 : Nat) : Int) > 0 := by omega
    simp only [s_A2Worn_l1, hz, decide_false, cond_false, hk]
    exact ⟨l, rfl, by omega, h4⟩
  | succ n ih =>
    intro N l a sd hi hN h0 h1 h2 h3 h4
    obtain ⟨N, rfl⟩ := pos_fuel hN
    have hz : ((n + 1 : Nat) : Int) > 0 := by omega
    have e2 : w64 (((n + 1 : Nat) : Int) - 1) = (n : Int) := by rw [w64_id (by omega) (by omega)]; omega
    simp only [s_A2Worn_l1, hz, decide_true, cond_true, e2]
    obtain ⟨v, e, g1, g2, g3⟩ := pickA (code := code) (hi := hi) (s := L00Src.mk code a sd) 12 ⟨rfl, h0, h1⟩ (by omega)
    have g4 := g3 (by omega)
    rw [e, Option.bind_some, app_some _ _ (by unfold LIM; simp; omega), Option.bind_some]
    refine ih N _ _ _ (hi + 2) (by omega) g1.2.1 g1.2.2 (by omega) (by simp; omega) fun x hx => ?_
    rcases List.mem_append.1 hx with hx | hx
    · exact h4 x hx
    · rw [List.mem_singleton.1 hx]; omega
theorem worn_ok (code : List UInt8) (N : Nat) (hN : 20 < N) : ∃ l, s_A2Worn N code = some l ∧ l.length ≤ 6 ∧ Bd 11 l := by
  unfold s_A2Worn
  rw [fromA]
  simp only [Option.bind_some, withK_eq]
  obtain ⟨v, e, g1, g2, g3⟩ := pickA (code := code) (hi := 0) (s := L00Src.mk code 0 0) 7 ⟨rfl, Int.le_refl _, Int.le_refl _⟩ (by omega)
  have g4 := g3 (by omega)
  obtain ⟨k, hk⟩ := Int.eq_ofNat_of_zero_le g2
  rw [e, Option.bind_some, hk]
  exact worn_l1 code _ (fun _ => rfl) k N [] _ _ 2 (by omega) g1.2.1 (by have := g1.2.2; omega) (by omega) (by simp; omega) (fun x hx => by cases hx)
theorem at_ok (code : List UInt8) : ∃ v : Nat, w_a2At code 0 20 = some (v : Int) ∧ v ≤ 19 := by
  unfold w_a2At
  have hd : decide ((20 : Int) < 1) = false := rfl
  simp only [orO_some, hd, Bool.or_false, Option.bind_some]
  by_cases h : (0 : Int) ≥ (code.length : Int)
  · simp only [h, decide_true, cond_true]
    exact ⟨0, rfl, by omega⟩
  · simp only [h, decide_false, cond_false]
    have hi : idx code 0 = some _ := idx_lt code 0 (by omega)
    rw [hi, Option.bind_some]
    obtain ⟨q, e, h1, h2⟩ := remO_ok ((code[0]'(by omega)).toNat : Int) 20 (by omega) (by omega)
    rw [e]
    obtain ⟨k, rfl⟩ := Int.eq_ofNat_of_zero_le h1
    exact ⟨k, rfl, by omega⟩
theorem law_l1 (w : List Int) (hw : w.length ≤ 6) (hb : Bd 11 w) (t : Nat) (ht : t ≤ 19) (kj : Option Bool) : ∀ (q i N : Nat), i + q = w.length → q + 20 < N → w_FnSheets_l1 kj w (t : Int) (wrN t w, 0) (evn w, 0) N (i : Int) = kj := by
  intro q
  have hlo := evn_len w
  have hlx := wrN_len t w
  induction q with
  | zero =>
    intro i N hi hN
    obtain ⟨N, rfl⟩ := pos_fuel (show 0 < N by omega)
    have hz : ¬ (i : Int) < ((evn w).length : Int) := by omega
    simp only [w_FnSheets_l1, hz, decide_false, cond_false]
  | succ q ih =>
    intro i N hi hN
    obtain ⟨N, rfl⟩ := pos_fuel (show 0 < N by omega)
    have hz : (i : Int) < ((evn w).length : Int) := by omega
    have hlt : i < (evn w).length := by omega
    have hm := (evn_mem w _).1 (List.getElem_mem hlt)
    have h1 : idx (evn w) (i : Int) = some (evn w)[i] := idx_lt _ i hlt
    have h2 : decide ((evn w)[i] < 0) = false := decide_eq_false (by omega)
    have h3 : decide ((evn w)[i] ≥ (w.length : Int)) = false := decide_eq_false (by omega)
    have h4 : sub (evn w) 0 (i : Int) = some ((evn w).take i) := by rw [sub_some _ 0 i (by omega) (by omega) (by omega)]; simp
    have h5 : w_a2Has N ((evn w).take i) (evn w)[i] = some false := by
      refine hasnt_ok _ _ (fun hin => ?_) (by rw [List.length_take]; omega) N (by rw [List.length_take]; omega)
      obtain ⟨j, hj, e⟩ := List.getElem_of_mem hin
      rw [List.length_take] at hj
      rw [List.getElem_take] at e
      have := List.pairwise_iff_getElem.1 (evn_nodup w) j i (by omega) hlt (by omega)
      exact this e
    have hltx : i < (wrN t w).length := by omega
    have h6 : idx (wrN t w) (i : Int) = some (wrN t w)[i] := idx_lt _ i hltx
    have h7 : idx w (i : Int) = some (w[i]'(by omega)) := idx_lt _ i (by omega)
    have hge := wrN_ge t w i (by omega)
    rw [List.getElem?_eq_getElem hltx, List.getElem?_eq_getElem (by omega : i < w.length)] at hge
    simp only [Option.getD_some] at hge
    have hbi := hb _ (List.getElem_mem (by omega : i < w.length))
    have h8 : decide ((wrN t w)[i] < w64 ((w[i]'(by omega)) + (t : Int))) = false := by
      rw [w64_id (by omega) (by omega)]; exact decide_eq_false (by omega)
    simp only [w_FnSheets_l1, hz, decide_true, cond_true, h1, h2, h3, h4, h5, h6, h7, h8, orO_false, Option.bind_some, cond_false]
    have hn : (andO (decide ((i : Int) > 0)) ((idx (evn w) (w64 ((i : Int) - 1))).bind fun e69 =>
        (idx w e69).bind fun e71 => (idx w (evn w)[i]).bind fun e75 =>
        (orO (decide (e71 > e75)) ((idx (evn w) (w64 ((i : Int) - 1))).bind fun e80 =>
        (idx w e80).bind fun e82 => (idx w (evn w)[i]).bind fun e86 =>
        (andO (e82 == e86) ((idx (evn w) (w64 ((i : Int) - 1))).bind fun e91 => some (decide (e91 > (evn w)[i])))).bind fun t88 => some t88)).bind fun t77 => some t77)) = some false := by
      cases i with
      | zero => rfl
      | succ j =>
        have hd : decide (((j + 1 : Nat) : Int) > 0) = true := decide_eq_true (by omega)
        have hj : w64 (((j + 1 : Nat) : Int) - 1) = (j : Int) := by rw [w64_id (by omega) (by omega)]; omega
        have hjl : j < (evn w).length := by omega
        have hmj := (evn_mem w _).1 (List.getElem_mem hjl)
        have hp := List.pairwise_iff_getElem.1 (evn_pw w) j (j + 1) hjl hlt (by omega)
        have hk := ky_in w _ ((rng_mem _ _).2 hm)
        have hkj := ky_in w _ ((rng_mem _ _).2 hmj)
        have q1 : decide (ky w (evn w)[j] > ky w (evn w)[j + 1]) = false := decide_eq_false (by omega)
        simp only [hd, hj, andO_true, idx_lt (evn w) j hjl, Option.bind_some, hk, hkj, q1, orO_false]
        rw [andO_some]
        have q2 : (ky w (evn w)[j] == ky w (evn w)[j + 1] && decide ((evn w)[j] > (evn w)[j + 1])) = false := by
          rw [Bool.and_eq_false_iff]
          rcases hp with hp | hp
          · left; rw [beq_eq_false_iff_ne]; omega
          · right; exact decide_eq_false (by omega)
        rw [q2]; rfl
    rw [hn]
    simp only [Option.bind_some, cond_false]
    rw [w64_nat i (by omega)]
    exact ih (i + 1) N (by omega) (by omega)
theorem wrN_bd (t : Nat) (w : List Int) (h : Bd 11 w) (hw : w.length ≤ 6) (ht : t ≤ 19) : Bd 10000 (wrN t w) := by
  have key : ∀ (q : Nat) (l : List Int) (B : Int), 0 ≤ B → Bd B l → l.length ≤ 6 → Bd (B + 144 * q) (wrN q l) := by
    intro q
    induction q with
    | zero => intro l B _ hb _; simpa [wrN] using hb
    | succ q ih =>
      intro l B hB hb hl
      have h1 : Bd (B + 144) (wr l) := (addR_bd _ _ _ _ (by omega) (by rw [evn_len]; omega) hB hb (fun e he => (evn_mem l e).1 he)).mono (by rw [evn_len]; omega)
      have := ih (wr l) (B + 144) (by omega) h1 (by rw [wr_len]; exact hl)
      exact this.mono (by omega)
  exact (key t w 11 (by omega) h hw).mono (by omega)
theorem law_FnSheets (code more : List UInt8) (_ : wfL wfByte code) (_ : wfL wfByte more) : ∃ N, w_FnSheets N code more = some true := by
  refine ⟨20000, ?_⟩
  obtain ⟨N, hN⟩ : ∃ N, N = 20000 := ⟨_, rfl⟩
  rw [← hN]
  unfold w_FnSheets
  have hw : ∃ q, w_a2Long code more = some q := by
    unfold w_a2Long
    simp only [orO_some, Option.bind_some]
    exact ⟨_, rfl⟩
  obtain ⟨q, hq⟩ := hw
  rw [hq, Option.bind_some]
  cases q
  case true => rfl
  rw [cond_false]
  obtain ⟨w, e1, hl, hb⟩ := worn_ok code N (by omega)
  obtain ⟨t, e2, ht⟩ := at_ok more
  have hb5 : Bd 100000 w := hb.mono (by omega)
  have hbx := wrN_bd t w hb hl ht
  have hlx := wrN_len t w
  have hlo := evn_len w
  have s1 := sum_ok (wrN t w) (by omega) (fun x hx => by have := hbx x hx; omega) N (by omega)
  have s2 := sum_ok w (by omega) (fun x hx => by have := hb x hx; omega) N (by omega)
  have hsum := wrN_sum t w
  have htri := tri_self w.length
  have hsw : ∀ l : List Int, Bd 11 l → 0 ≤ l.sum ∧ l.sum ≤ 11 * l.length := fun l h => by
    induction l with
    | nil => simp
    | cons x l ih =>
      have h1 := ih fun y hy => h y (List.mem_cons_of_mem _ hy)
      have h2 := h x List.mem_cons_self
      simp only [List.sum_cons, List.length_cons]; omega
  have hs0 := hsw w hb
  rw [e1, Option.bind_some, e2, Option.bind_some, wear_ok w (by omega) hb5 t (by omega) N (by omega), Option.bind_some, even_ok w (by omega) hb5 N (by omega), Option.bind_some]
  have hnn : (w.length : Int) * ((w.length : Int) + 1) ≤ 42 ∧ 0 ≤ (w.length : Int) * ((w.length : Int) + 1) := by
    refine ⟨?_, Int.mul_nonneg (by omega) (by omega)⟩
    calc (w.length : Int) * ((w.length : Int) + 1) ≤ 6 * ((w.length : Int) + 1) := Int.mul_le_mul_of_nonneg_right (by omega) (by omega)
      _ ≤ 42 := by omega
  have htn : 0 ≤ (t : Int) * (w.length : Int) ∧ (t : Int) * (w.length : Int) ≤ 114 := by
    refine ⟨Int.mul_nonneg (by omega) (by omega), ?_⟩
    calc (t : Int) * (w.length : Int) ≤ 19 * (w.length : Int) := Int.mul_le_mul_of_nonneg_right (by omega) (by omega)
      _ ≤ 114 := by omega
  have htt : (t : Int) * (w.length : Int) * ((w.length : Int) + 1) = 2 * ((t : Int) * tri w.length w.length) := by
    rw [Int.mul_assoc, ← htri, Int.mul_left_comm]
  have htb : 0 ≤ (t : Int) * tri w.length w.length ∧ (t : Int) * tri w.length w.length ≤ 399 := by
    refine ⟨Int.mul_nonneg (by omega) (by omega), ?_⟩
    calc (t : Int) * tri w.length w.length ≤ 19 * tri w.length w.length := Int.mul_le_mul_of_nonneg_right (by omega) (by omega)
      _ ≤ 399 := by omega
  have hs3 : ((wrN t w).sum != w64 (w.sum + w64 (Int.tdiv (w64 (w64 ((t : Int) * (w.length : Int)) * w64 ((w.length : Int) + 1))) 2))) = false := by
    rw [w64_id (x := (t : Int) * (w.length : Int)) (by omega) (by omega), w64_id (x := (w.length : Int) + 1) (by omega) (by omega), htt, w64_id (x := 2 * ((t : Int) * tri w.length w.length)) (by omega) (by omega)]
    have hd : Int.tdiv (2 * ((t : Int) * tri w.length w.length)) 2 = (t : Int) * tri w.length w.length := Int.mul_tdiv_cancel_left _ (by omega)
    rw [hd, w64_id (x := (t : Int) * tri w.length w.length) (by omega) (by omega), w64_id (by omega) (by omega), hsum]
    simp
  have c1 : (((wrN t w).length : Int) != (w.length : Int)) = false := by rw [hlx]; simp
  have c2 : (((evn w).length : Int) != (w.length : Int)) = false := by rw [hlo]; simp
  simp only [bne_self_eq_false, c1, c2, orO_some, Bool.or_self, Option.bind_some, s1, s2, hs3, cond_false, withK_eq]
  have hl1 := law_l1 w hl hb t ht
  have hl1' := fun kj => hl1 kj w.length 0 N (by omega) (by omega)
  simp only [show ((0 : Nat) : Int) = 0 from rfl] at hl1'
  rw [hl1']
  cases t with
  | zero =>
    have : (((0 : Nat) : Int) == 0) = true := rfl
    rw [this, cond_true]
    rw [show wrN 0 w = w from rfl, same_ok w (by omega) N (by omega)]; rfl
  | succ t =>
    have hz : (((t + 1 : Nat) : Int) == 0) = false := by rw [beq_eq_false_iff_ne]; omega
    have hm : w64 (((t + 1 : Nat) : Int) - 1) = (t : Int) := by rw [w64_id (by omega) (by omega)]; omega
    have hb1 : Bd 100000 (wr w) := (wrN_bd 1 w hb hl (by omega)).mono (by omega)
    have w1 := wear_ok w (by omega) hb5 1 (by omega) N (by omega)
    rw [show ((1 : Nat) : Int) = 1 from rfl, show wrN 1 w = wr w from rfl] at w1
    have w2 := wear_ok (wr w) (by rw [wr_len]; omega) hb1 t (by omega) N (by omega)
    rw [show wrN t (wr w) = wrN (t + 1) w from rfl] at w2
    rw [hz, cond_false, w1, Option.bind_some, hm, w2, Option.bind_some]
    simp only [beq_self_eq_true, andO_some, Bool.and_self, Option.bind_some, andO_true]
    rw [same_ok _ (by omega) N (by omega)]; rfl
end Go.Proofs.Ytcegcmoeimjioaa
