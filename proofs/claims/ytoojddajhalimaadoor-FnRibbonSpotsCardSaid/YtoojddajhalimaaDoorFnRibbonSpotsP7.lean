/-
  Plain lemmas on these functions. No conditions but those that each states.
-/
import Derived.Test.YtoojddajhalimaaDoorFnRibbonSpotsP6
namespace Go.Proofs.YtoojddajhalimaaDoor
set_option linter.unusedVariables false
set_option linter.unusedSimpArgs false
/-! The uses of all spots. -/
def usL (S n : Int) : List Int := (List.range S.toNat).map fun s : Nat => uI S (s : Int) n
theorem length_usL (S n : Int) : (usL S n).length = S.toNat := by unfold usL; simp
theorem idx_usL (S n s : Int) (h0 : 0 ≤ s) (h1 : s < S) : idx (usL S n) s = some (uI S s n) := by
  rw [idx_int _ s h0 (by rw [length_usL]; omega)]
  simp only [usL, List.getElem_map, List.getElem_range]
  rw [show ((s.toNat : Nat) : Int) = s by omega]
theorem take_usL (S n : Int) (i : Nat) (h : i < S.toNat) : (usL S n).take i ++ [uI S (i : Int) n] = (usL S n).take (i + 1) := by
  rw [List.take_succ_eq_append_getElem (by rw [length_usL]; exact h)]
  simp [usL]
theorem Uses_l1 (r : Ribbon) (n : Int) (h : okR r) (h0 : 0 ≤ n) (h1 : n ≤ 100000) (kj : List Int → Option (List Int × Int)) : ∀ (d i N : Nat), i + d = r.spots.toNat → d + 1000 < N →
    i_UsesOf_l1 kj r n N ((usL r.spots n).take i) (i : Int) = kj (usL r.spots n) ∧ s_UsesOf_l1 kj r n N ((usL r.spots n).take i) (i : Int) = kj (usL r.spots n) := by
  have hS := h.1
  have hS2 := h.2.1
  intro d
  induction d with
  | zero =>
    intro i N h2 h3
    obtain ⟨N, rfl⟩ := pos_fuel (show 0 < N by omega)
    have hi : ¬ ((i : Int) < r.spots) := by omega
    have e : (usL r.spots n).take i = usL r.spots n := List.take_of_length_le (by rw [length_usL]; omega)
    simp only [i_UsesOf_l1, s_UsesOf_l1, hi, decide_false, cond_false, e, and_self]
  | succ d ih =>
    intro i N h2 h3
    obtain ⟨N, rfl⟩ := pos_fuel (show 0 < N by omega)
    have hi : (i : Int) < r.spots := by omega
    obtain ⟨g1, g2⟩ := ih (i + 1) N (by omega) (by omega)
    simp only [i_UsesOf_l1, s_UsesOf_l1, hi, decide_true, cond_true, iUses_eq r i n h (by omega) hi h0 (by omega), Before_eq N r i n h (by omega) hi h0 (by omega) (by omega), Option.bind_some, w64_nat i (by omega)]
    rw [app_some _ _ (by rw [List.length_take]; unfold LIM; simp; omega), take_usL r.spots n i (by omega)]
    exact ⟨g1, g2⟩
theorem Uses_eq (N : Nat) (r : Ribbon) (n : Int) (hN : 2000 < N) : ∃ p, i_UsesOf N r n = some p ∧ s_UsesOf N r n = some p ∧ p.1.length ≤ 1000 ∧ (p.2 = 0 → okR r ∧ 0 ≤ n ∧ n ≤ 100000 ∧ p.1 = usL r.spots n) := by
  unfold i_UsesOf s_UsesOf
  rw [iValid_eq, Code_eq, use_eq]
  simp only [Option.bind_some, withK_eq]
  by_cases v : vR r = true
  · have h := vR_iff.1 v
    by_cases c : 0 ≤ n ∧ n ≤ 100000
    · have := fun kj => Uses_l1 r n h c.1 c.2 kj r.spots.toNat 0 N (by omega) (by have := h.2.1; omega)
      simp only [List.take_zero] at this
      rw [show ((0 : Nat) : Int) = 0 from rfl] at this
      have c0 := c.1
      have c1 := c.2
      simp only [v, Bool.not_true, cond_false, c, and_self, decide_true, if_true, bne_self_eq_false, (this _).1, (this _).2]
      exact ⟨_, rfl, rfl, by show (usL r.spots n).length ≤ 1000; rw [length_usL]; have := h.2.1; omega, fun _ => ⟨h, by first | exact c0 | trivial, by first | exact c1 | trivial, rfl⟩⟩
    · simp only [v, Bool.not_true, cond_false, c, decide_false, Bool.not_false, cond_true, if_true, if_false]
      exact ⟨([], 2), rfl, rfl, by simp, by intro e; simp at e⟩
  · have v' : vR r = false := by simpa using v
    simp only [v', Bool.not_false, cond_true]
    exact ⟨([], 1), rfl, rfl, by simp, by intro e; simp at e⟩
theorem usL_zero (S : Int) (hS : 2 ≤ S) : (usL S 0).sum = 0 := by
  unfold usL
  have : ((List.range S.toNat).map fun s : Nat => uI S (s : Int) 0) = (List.range S.toNat).map fun _ => (0 : Int) := List.map_congr_left fun s hs => by
    have := List.mem_range.1 hs
    exact u_zero S s hS (by omega) (by omega)
  rw [this]
  generalize List.range S.toNat = l
  induction l with
  | nil => rfl
  | cons a l ih => simp [ih]
theorem sum_one (k : Int) : ∀ m : Nat, ((List.range m).map fun s : Nat => if k = (s : Int) then (1 : Int) else 0).sum = if 0 ≤ k ∧ k < m then 1 else 0 := by
  intro m
  induction m with
  | zero => simp
  | succ m ih =>
    rw [List.range_succ, List.map_append, List.sum_append, ih]
    simp only [List.map_cons, List.map_nil, List.sum_cons, List.sum_nil]
    split <;> split <;> split <;> omega
theorem sum_add (f g : Nat → Int) (l : List Nat) : (l.map fun s => f s + g s).sum = (l.map f).sum + (l.map g).sum := by
  induction l with
  | nil => rfl
  | cons a l ih => simp only [List.map_cons, List.sum_cons, ih]; omega
theorem usL_sum (S : Int) (hS : 2 ≤ S) : ∀ n : Nat, (usL S (n : Int)).sum = n := by
  intro n
  induction n with
  | zero => exact usL_zero S hS
  | succ n ih =>
    have hb := sp_b S n hS (by omega)
    have e : usL S ((n + 1 : Nat) : Int) = (List.range S.toNat).map fun s : Nat => uI S (s : Int) (n : Int) + (if spI S n = (s : Int) then 1 else 0) := by
      unfold usL
      refine List.map_congr_left fun s hs => ?_
      have := List.mem_range.1 hs
      rw [show ((n + 1 : Nat) : Int) = (n : Int) + 1 by omega]
      exact u_succ S s n hS (by omega) (by omega) (by omega)
    rw [e, sum_add, sum_one, if_pos (by omega)]
    have : ((List.range S.toNat).map fun s : Nat => uI S (s : Int) (n : Int)).sum = n := ih
    rw [this]
    omega
theorem sum_l1 (kj : Int → Option Int) (l : List Int) (B : Int) (hB : B ≤ 1000000000) (hl : ∀ x ∈ l, 0 ≤ x ∧ x ≤ B) (hn : l.length ≤ 1000) : ∀ (d i N : Nat) (a : Int), i + d = l.length → d < N → 0 ≤ a → a ≤ B * i → w_f6sum_l1 kj l N a (i : Int) = kj (a + (l.drop i).sum) := by
  intro d
  induction d with
  | zero =>
    intro i N a h1 h2 h3 h4
    obtain ⟨N, rfl⟩ := pos_fuel h2
    have hi : ¬ ((i : Int) < (l.length : Int)) := by omega
    have e2 : l.drop i = [] := List.drop_of_length_le (by omega)
    simp only [w_f6sum_l1, hi, decide_false, cond_false, e2, List.sum_nil, Int.add_zero]
  | succ d ih =>
    intro i N a h1 h2 h3 h4
    obtain ⟨N, rfl⟩ := pos_fuel h2
    have hi : (i : Int) < (l.length : Int) := by omega
    have hil : i < l.length := by omega
    obtain ⟨b1, b2⟩ := hl _ (List.getElem_mem hil)
    have b3 : B * (i : Int) ≤ 1000000000 * 1000 := Int.mul_le_mul hB (by omega) (by omega) (by omega)
    have e1 : w64 (a + l[i]) = a + l[i] := w64_id (by omega) (by omega)
    have := ih (i + 1) N (a + l[i]) (by omega) (by omega) (by omega) (by rw [show ((i + 1 : Nat) : Int) = (i : Int) + 1 by omega, Int.mul_add]; omega)
    simp only [w_f6sum_l1, hi, decide_true, cond_true, idx_lt l i hil, Option.bind_some, e1, w64_nat i (by omega), this]
    rw [drop_cons l i hil, List.sum_cons, Int.add_assoc]
theorem f6sum_eq (N : Nat) (S n : Int) (hS : 2 ≤ S) (hS2 : S ≤ 200) (h0 : 0 ≤ n) (h1 : n ≤ 100000) (hN : 1000 < N) : w_f6sum N (usL S n) = some n := by
  have := sum_l1 some (usL S n) (n + 2) (by omega) (fun x hx => by
    unfold usL at hx
    obtain ⟨s, _, rfl⟩ := List.mem_map.1 hx
    exact u_b S s n hS h0) (by rw [length_usL]; omega) (usL S n).length 0 N 0 (by omega) (by rw [length_usL]; omega) (by omega) (by simp)
  rw [show ((0 : Nat) : Int) = 0 from rfl, List.drop_zero, Int.zero_add] at this
  have hs := usL_sum S hS n.toNat
  rw [show ((n.toNat : Nat) : Int) = n by omega] at hs
  unfold w_f6sum
  rw [withK_eq, this, hs]
/-! turns -/
theorem turns_eq (S n : Int) (hS : 2 ≤ S) (hn : 1 ≤ n) : uI S 0 n + uI S (S - 1) n - 1 = (n - 1) / (S - 1) ∧ 0 ≤ (n - 1) / (S - 1) := by
  have hp : per S = 2 * (S - 1) := rfl
  obtain ⟨a1, a2, a3, a4⟩ := dm_b (per S) n (by omega) (by omega)
  have a5 := Int.emod_add_mul_ediv n (per S)
  have a6 : per S * (n / per S) = 2 * ((S - 1) * (n / per S)) := by rw [hp, Int.mul_assoc]
  refine ⟨?_, Int.ediv_nonneg (by omega) (by omega)⟩
  have hu0 : uI S 0 n = n / per S + (if 0 < n % per S then 1 else 0) := by unfold uI; rw [if_pos (Or.inl rfl)]
  have hu1 : uI S (S - 1) n = n / per S + (if S - 1 < n % per S then 1 else 0) := by unfold uI; rw [if_pos (Or.inr rfl)]
  rw [hu0, hu1]
  clear hu0 hu1
  generalize n % per S = r at *
  generalize n / per S = q at *
  have key : ∀ x y : Int, n - 1 = (S - 1) * x + y → 0 ≤ y → y < S - 1 → (n - 1) / (S - 1) = x := fun x y h1 h2 h3 =>
    ((Int.ediv_emod_unique (a := n - 1) (b := S - 1) (r := y) (q := x) (by omega)).2 ⟨by omega, h2, h3⟩).1
  have d1 : (S - 1) * (2 * q) = 2 * ((S - 1) * q) := by rw [Int.mul_left_comm]
  by_cases c0 : 0 < r
  · by_cases c1 : S - 1 < r
    · have d2 : (S - 1) * (2 * q + 1) = 2 * ((S - 1) * q) + (S - 1) := by rw [Int.mul_add, d1, Int.mul_one]
      rw [if_pos c0, if_pos c1, key (2 * q + 1) (r - 1 - (S - 1)) (by rw [d2]; omega) (by omega) (by omega)]
      omega
    · rw [if_pos c0, if_neg c1, key (2 * q) (r - 1) (by rw [d1]; omega) (by omega) (by omega)]
      omega
  · have d2 : (S - 1) * (2 * q - 1) = 2 * ((S - 1) * q) - (S - 1) := by rw [Int.mul_sub, d1, Int.mul_one]
    have c1 : ¬ S - 1 < r := by omega
    rw [if_neg c0, if_neg c1, key (2 * q - 1) (S - 2) (by rw [d2]; omega) (by omega) (by omega)]
    omega
def tI (S n : Int) : Int := if n = 0 then 0 else uI S 0 n + uI S (S - 1) n - 1
theorem Turns_eq (r : Ribbon) (n : Int) : ∃ p, i_TurnsIn r n = some p ∧ s_TurnsIn r n = some p ∧ (okR r → 0 ≤ n → n ≤ 100000 → p = (tI r.spots n, 0)) := by
  unfold i_TurnsIn s_TurnsIn
  rw [iValid_eq, Code_eq, use_eq]
  simp only [Option.bind_some]
  by_cases v : vR r = true
  · have h := vR_iff.1 v
    have hS := h.1
    have hS2 := h.2.1
    by_cases c : 0 ≤ n ∧ n ≤ 100000
    · have e3 : w64 (r.spots - 1) = r.spots - 1 := w64_id (by omega) (by omega)
      have e4 : w64 (n - 1) = n - 1 := w64_id (by omega) (by omega)
      have u0 := u_b r.spots 0 n hS c.1
      have u1 := u_b r.spots (r.spots - 1) n hS c.1
      have i0 := iUses_eq r 0 n h (by omega) (by omega) c.1 (by omega)
      have i1 := iUses_eq r (r.spots - 1) n h (by omega) (by omega) c.1 (by omega)
      have e5 : w64 (w64 (uI r.spots 0 n + uI r.spots (r.spots - 1) n) - 1) = uI r.spots 0 n + uI r.spots (r.spots - 1) n - 1 := by
        rw [w64_id (x := uI r.spots 0 n + _) (by omega) (by omega), w64_id (by omega) (by omega)]
      simp only [v, Bool.not_true, cond_false, c, and_self, decide_true, if_true, bne_self_eq_false, e3, e4, i0, i1, Option.bind_some, e5, Max_eq]
      by_cases z : n = 0
      · subst z
        have z0 := u_zero r.spots 0 hS (by omega) (by omega)
        have z1 := u_zero r.spots (r.spots - 1) hS (by omega) (by omega)
        refine ⟨(0, 0), by rw [z0, z1]; rfl, ?_, fun _ _ _ => by unfold tI; rw [if_pos rfl]⟩
        rw [show (if (0 : Int) > 0 - 1 then (0 : Int) else 0 - 1) = 0 from rfl, quoO_pos 0 _ (by omega) (by omega) (by omega), Int.zero_ediv]
        rfl
      · obtain ⟨t1, t2⟩ := turns_eq r.spots n hS (by omega)
        have g : ¬ 0 > n - 1 := by omega
        have g2 : ¬ 0 > uI r.spots 0 n + uI r.spots (r.spots - 1) n - 1 := by omega
        refine ⟨(tI r.spots n, 0), ?_, ?_, fun _ _ _ => rfl⟩
        · unfold imax tI
          rw [if_neg g2, if_neg z]
        · rw [if_neg g, quoO_pos _ _ (by omega) (by omega) (by omega), ← t1]
          unfold tI
          rw [if_neg z]
          rfl
    · simp only [v, Bool.not_true, cond_false, c, decide_false, Bool.not_false, cond_true, if_true, if_false]
      exact ⟨(0, 2), rfl, rfl, fun _ a b => absurd ⟨a, b⟩ c⟩
  · have v' : vR r = false := by simpa using v
    simp only [v', Bool.not_false, cond_true]
    exact ⟨(0, 1), rfl, rfl, fun a => absurd (vR_iff.2 a) v⟩
theorem SpotAt_eq (r : Ribbon) (n : Int) : ∃ p, i_SpotAt r n = some p ∧ s_SpotAt r n = some p ∧ (okR r → 0 ≤ n → n ≤ 100000 → p = (spI r.spots n, 0)) := by
  unfold i_SpotAt s_SpotAt
  rw [iValid_eq, Code_eq, use_eq]
  simp only [Option.bind_some]
  by_cases v : vR r = true
  · have h := vR_iff.1 v
    by_cases c : 0 ≤ n ∧ n ≤ 100000
    · have i0 := iSpot_eq r n h c.1
      have s0 := sSpot_eq r n h c.1
      simp only [v, Bool.not_true, cond_false, c, and_self, decide_true, if_true, bne_self_eq_false, i0, s0, Option.bind_some]
      exact ⟨_, rfl, rfl, fun _ _ _ => rfl⟩
    · simp only [v, Bool.not_true, cond_false, c, decide_false, Bool.not_false, cond_true, if_true, if_false]
      exact ⟨(0, 2), rfl, rfl, fun _ a b => absurd ⟨a, b⟩ c⟩
  · have v' : vR r = false := by simpa using v
    simp only [v', Bool.not_false, cond_true]
    exact ⟨(0, 1), rfl, rfl, fun a => absurd (vR_iff.2 a) v⟩
theorem ShadeAt2_eq (N : Nat) (r : Ribbon) (n : Int) (hN : 1000 < N) : ∃ p, i_ShadeAt r n = some p ∧ s_ShadeAt N r n = some p ∧ (okR r → 0 ≤ n → n ≤ 100000 → p = (shI r n, 0)) := by
  unfold i_ShadeAt s_ShadeAt
  rw [iValid_eq, Code_eq, use_eq]
  simp only [Option.bind_some]
  by_cases v : vR r = true
  · have h := vR_iff.1 v
    by_cases c : 0 ≤ n ∧ n ≤ 100000
    · have i0 := iShade_eq r n h c.1 (by omega)
      have s0 := sShade_eq N r n h c.1 (by omega) hN
      simp only [v, Bool.not_true, cond_false, c, and_self, decide_true, if_true, bne_self_eq_false, i0, s0, Option.bind_some]
      exact ⟨_, rfl, rfl, fun _ _ _ => rfl⟩
    · simp only [v, Bool.not_true, cond_false, c, decide_false, Bool.not_false, cond_true, if_true, if_false]
      exact ⟨(0, 2), rfl, rfl, fun _ a b => absurd ⟨a, b⟩ c⟩
  · have v' : vR r = false := by simpa using v
    simp only [v', Bool.not_false, cond_true]
    exact ⟨(0, 1), rfl, rfl, fun a => absurd (vR_iff.2 a) v⟩
theorem Text_same (N : Nat) (r : Ribbon) (hN : 30 < N) : ∃ s, i_RibbonText r = some s ∧ s_RibbonText N r = some s := by
  unfold i_RibbonText s_RibbonText
  rw [iValid_eq, sValid_eq, Option.bind_some, Option.bind_some]
  by_cases v : vR r = true
  · obtain ⟨h1, h2, h3, h4, h5, h6⟩ := vR_iff.1 v
    obtain ⟨a1, a2, a3, _⟩ := Dec_eq N r.spots (by omega) (by omega) hN
    obtain ⟨b1, b2, b3, _⟩ := Dec_eq N r.ink (by omega) (by omega) hN
    obtain ⟨c1, c2, c3, _⟩ := Dec_eq N r.takes (by omega) (by omega) hN
    have d1 : cat (Lib.itoa r.spots) [32, 115, 112, 111, 116, 115, 32, 111, 102, 32] = some _ := cat_some _ _ (by unfold LIM; simp; omega)
    have d2 : cat (Lib.itoa r.spots ++ [32, 115, 112, 111, 116, 115, 32, 111, 102, 32]) (Lib.itoa r.ink) = some _ := cat_some _ _ (by unfold LIM; simp; omega)
    have d3 : cat (Lib.itoa r.spots ++ [32, 115, 112, 111, 116, 115, 32, 111, 102, 32] ++ Lib.itoa r.ink) [32, 108, 101, 115, 115, 32] = some _ := cat_some _ _ (by unfold LIM; simp; omega)
    have d4 : cat (Lib.itoa r.spots ++ [32, 115, 112, 111, 116, 115, 32, 111, 102, 32] ++ Lib.itoa r.ink ++ [32, 108, 101, 115, 115, 32]) (Lib.itoa r.takes) = some _ := cat_some _ _ (by unfold LIM; simp; omega)
    simp only [v, Bool.not_true, cond_false, a1, a2, b1, b2, c1, c2, Option.bind_some, d1, d2, d3, d4]
    exact ⟨_, rfl, rfl⟩
  · have v' : vR r = false := by simpa using v
    simp only [v', Bool.not_false, cond_true]
    exact ⟨_, rfl, rfl⟩
theorem step_one (S n : Int) (hS : 2 ≤ S) (hn : 0 ≤ n) : spI S (n + 1) - spI S n = 1 ∨ spI S n - spI S (n + 1) = 1 := by
  have hp : per S = 2 * (S - 1) := rfl
  obtain ⟨a1, a2, a3, a4⟩ := dm_b (per S) n (by omega) hn
  unfold spI
  rcases dm_step (per S) n (by omega) with ⟨b1, b2, b3⟩ | ⟨b1, b2, b3⟩
  · rw [b3]
    generalize n % per S = r at *
    split <;> split <;> omega
  · rw [b3]
    generalize n % per S = r at *
    split <;> split <;> omega
theorem law_FnRibbonSpots (code : List UInt8) (_ : wfL wfByte code) : ∃ N, w_FnRibbonSpots N code = some true := by
  refine ⟨10000, ?_⟩
  obtain ⟨N, hN⟩ : ∃ N, N = 10000 := ⟨_, rfl⟩
  rw [← hN]
  unfold w_FnRibbonSpots w_f6big
  simp only [Option.bind_some]
  cases decide ((code.length : Int) > 4096)
  case true => rfl
  rw [cond_false]
  have hb : BIG = 1152921504606846976 := rfl
  have e0 : s_l00From code = some ⟨code, 0, 0⟩ := rfl
  obtain ⟨⟨r, n⟩, x1⟩ : ∃ p, s_DrawUsesOf code = some p := by
    obtain ⟨r1, q1, sd1, d1, d2, d3⟩ := Bent_ok code 0 0 (by omega) (by omega)
    obtain ⟨v2, q2, sd2, e2, b2, c2⟩ := Strokes_ok code q1 sd1 (by omega) (by omega)
    simp only [s_DrawUsesOf, s_l14Both, e0, d1, e2, Option.bind_some]
    exact ⟨_, rfl⟩
  obtain ⟨p1, y1, y1', l1, f1⟩ := Uses_eq N r n (by omega)
  obtain ⟨p2, y2, y2', f2⟩ := SpotAt_eq r n
  obtain ⟨p3, y3, y3', f3⟩ := Turns_eq r n
  obtain ⟨p4, y4, y4', f4⟩ := ShadeAt2_eq N r n (by omega)
  obtain ⟨s, t1, t2⟩ := Text_same N r (by omega)
  have v2 : s_ValidRibbon r = some (vR r) := by simp only [s_ValidRibbon, sValid_eq, Option.bind_some]
  simp only [x1, y1, y1', y2, y2', y3, y3', y4, y4', t1, t2, iValid_eq, v2, Option.bind_some, bne_self_eq_false, orO_some, ints_eq N p1.1 l1 (by omega), Bool.not_true, Bool.or_self, cond_false, withK_eq]
  cases c : (p1.2 != 0)
  case true => rfl
  have c' : p1.2 = 0 := by simpa using c
  obtain ⟨h, h0, h1, hp1⟩ := f1 c'
  have hS := h.1
  have hS2 := h.2.1
  have g2 := f2 h h0 h1
  have g3 := f3 h h0 h1
  have g4 := f4 h h0 h1
  have hsb := sp_b r.spots n hS h0
  have n1 : ¬ spI r.spots n < 0 := by omega
  have n2 : ¬ spI r.spots n ≥ r.spots := by omega
  have hsh : imax 0 (w64 (r.ink - w64 (r.takes * uI r.spots (spI r.spots n) n))) = shI r n := by
    rw [prod_b r _ n h h0 (by omega)]
    unfold imax shI
    split <;> split <;> omega
  simp only [cond_false, hp1, f6sum_eq N r.spots n hS hS2 h0 h1 (by omega), Option.bind_some, bne_self_eq_false, g2, g3, g4, n1, n2, decide_false, Bool.or_self, idx_usL r.spots n _ hsb.1 hsb.2, hsh]
  by_cases z : n = 0
  · subst z
    have hz : spI r.spots 0 = 0 := by
      have hp : per r.spots = 2 * (r.spots - 1) := rfl
      unfold spI
      rw [Int.zero_emod, if_neg (by omega)]
    simp only [beq_self_eq_true, cond_true, hz, andO_true, Option.bind_some, tI, if_true]
    rfl
  · have zb : (n == 0) = false := by simpa using z
    have e1 : w64 (n - 1) = n - 1 := w64_id (by omega) (by omega)
    have e2 : w64 (r.spots - 1) = r.spots - 1 := w64_id (by omega) (by omega)
    obtain ⟨q1, w1, _, k1⟩ := SpotAt_eq r (n - 1)
    obtain ⟨q2, w2, _, k2⟩ := Turns_eq r (n - 1)
    have k1' := k1 h (by omega) (by omega)
    have k2' := k2 h (by omega) (by omega)
    have hsb2 := sp_b r.spots (n - 1) hS (by omega)
    have hst := step_one r.spots (n - 1) hS (by omega)
    rw [show n - 1 + 1 = n by omega] at hst
    have e3 : w64 (spI r.spots n - spI r.spots (n - 1)) = spI r.spots n - spI r.spots (n - 1) := w64_id (by omega) (by omega)
    have e4 : w64 (spI r.spots (n - 1) - spI r.spots n) = spI r.spots (n - 1) - spI r.spots n := w64_id (by omega) (by omega)
    have hm : imax (spI r.spots n - spI r.spots (n - 1)) (spI r.spots (n - 1) - spI r.spots n) = 1 := by
      unfold imax; split <;> omega
    have u0 := u_succ r.spots 0 (n - 1) hS (by omega) (by omega) (by omega)
    have u1 := u_succ r.spots (r.spots - 1) (n - 1) hS (by omega) (by omega) (by omega)
    rw [show n - 1 + 1 = n by omega] at u0 u1
    have ub0 := u_b r.spots 0 (n - 1) hS (by omega)
    have ub1 := u_b r.spots (r.spots - 1) (n - 1) hS (by omega)
    simp only [zb, cond_false, e1, w1, w2, k1', k2', Option.bind_some, e2, orO_some, andO_some, e3, e4, hm, beq_self_eq_true, Bool.and_self, Bool.true_and]
    by_cases big : n > 1
    · have z2 : ¬ n - 1 = 0 := by omega
      have tt : tI r.spots (n - 1) = uI r.spots 0 (n - 1) + uI r.spots (r.spots - 1) (n - 1) - 1 := by unfold tI; rw [if_neg z2]
      have tn : tI r.spots n = uI r.spots 0 n + uI r.spots (r.spots - 1) n - 1 := by unfold tI; rw [if_neg z]
      have tpos := (turns_eq r.spots (n - 1) hS (by omega)).1
      have tpos2 := (turns_eq r.spots (n - 1) hS (by omega)).2
      by_cases a : spI r.spots (n - 1) = 0
      · have ab : (spI r.spots (n - 1) == 0) = true := by simpa using a
        rw [if_pos a] at u0
        rw [if_neg (by omega)] at u1
        simp only [big, decide_true, ab, Bool.true_or, Bool.and_self, cond_true]
        rw [w64_id (by omega) (by omega), tt, tn, u0, u1]
        simp; omega
      · have ab : (spI r.spots (n - 1) == 0) = false := by simpa using a
        rw [if_neg a] at u0
        by_cases b : spI r.spots (n - 1) = r.spots - 1
        · have bb : (spI r.spots (n - 1) == r.spots - 1) = true := by simpa using b
          rw [if_pos b] at u1
          simp only [big, decide_true, ab, bb, Bool.or_true, Bool.and_self, cond_true]
          rw [w64_id (by omega) (by omega), tt, tn, u0, u1]
          simp; omega
        · have bb : (spI r.spots (n - 1) == r.spots - 1) = false := by simpa using b
          rw [if_neg b] at u1
          simp only [big, decide_true, ab, bb, Bool.or_self, Bool.and_false, cond_false]
          rw [w64_id (by omega) (by omega), tt, tn, u0, u1]
          simp
    · have e5 : n = 1 := by omega
      subst e5
      have t0 : tI r.spots (1 - 1) = 0 := by unfold tI; rw [if_pos (by omega)]
      have t1 : tI r.spots 1 = 0 := by
        have := (turns_eq r.spots 1 hS (by omega)).1
        unfold tI
        rw [if_neg (by omega), this]
        simp
      simp only [big, decide_false, Bool.false_and, cond_false, t0, t1]
      rfl
end Go.Proofs.YtoojddajhalimaaDoor
