/-
  Plain lemmas on these functions. No conditions but those that each states.
-/
import Derived.Test.YtcegcmoeimjioaaFnMarksP9
namespace Go.Proofs.Ytcegcmoeimjioaa
set_option linter.unusedVariables false
set_option linter.unusedSimpArgs false
theorem as_l1 (l : List Int) (hl : l.length ≤ 1000) (hb : ∀ v ∈ l, 0 ≤ v ∧ v ≤ 1000) (kj : Int → Option Int) : ∀ (q x N : Nat) (s : Int), x + q = l.length → q < N → 0 ≤ s → s ≤ 1000 * x → w_a2Sum_l1 kj l N s (x : Int) = kj (s + isum (l.drop x)) := by
  intro q
  induction q with
  | zero =>
    intro x N s hx hN h0 h1
    obtain ⟨N, rfl⟩ := pos_fuel hN
    rw [w_a2Sum_l1, decide_eq_false (by omega : ¬ (x : Int) < (l.length : Int)), cond_false, List.drop_eq_nil_of_le (by omega)]
    simp only [isum, Int.add_zero]
  | succ q ih =>
    intro x N s hx hN h0 h1
    obtain ⟨N, rfl⟩ := pos_fuel hN
    have hlt : x < l.length := by omega
    have hv := hb _ (List.getElem_mem hlt)
    rw [w_a2Sum_l1, decide_eq_true (by omega : (x : Int) < (l.length : Int)), cond_true, idx_lt l x hlt, Option.bind_some, w64_nat x (by omega), w64_id (by omega) (by omega), List.drop_eq_getElem_cons hlt, isum, ← Int.add_assoc]
    exact ih (x + 1) N _ (by omega) (by omega) (by omega) (by omega)
theorem as_ok (l : List Int) (hl : l.length ≤ 1000) (hb : ∀ v ∈ l, 0 ≤ v ∧ v ≤ 1000) (N : Nat) (hN : 1000 < N) : w_a2Sum N l = some (isum l) := by
  unfold w_a2Sum
  rw [withK_n]
  have := as_l1 l hl hb (fun s => some s) l.length 0 N 0 (by omega) (by omega) (Int.le_refl _) (by omega)
  rw [show ((0 : Nat) : Int) = 0 from rfl, List.drop_zero, Int.zero_add] at this
  exact this
theorem gcd_l1 (kj : Int → Option Int) : ∀ (n b a N : Nat), b ≤ n → n < N → i_divisor_l1 kj N (a : Int) (b : Int) = kj (Nat.gcd a b : Int) := by
  intro n
  induction n with
  | zero =>
    intro b a N h1 h2
    obtain ⟨N, rfl⟩ := pos_fuel h2
    obtain rfl : b = 0 := by omega
    have e : (((0 : Nat) : Int) != 0) = false := rfl
    rw [Nat.gcd_zero_right, i_divisor_l1, e, cond_false]
  | succ n ih =>
    intro b a N h1 h2
    obtain ⟨N, rfl⟩ := pos_fuel h2
    by_cases hb : b = 0
    · subst hb
      have e : (((0 : Nat) : Int) != 0) = false := rfl
      rw [Nat.gcd_zero_right, i_divisor_l1, e, cond_false]
    · have e : ((b : Int) != 0) = true := by simp; omega
      have hr : remO (a : Int) (b : Int) = some ((a % b : Nat) : Int) := by
        unfold remO
        rw [if_neg (by omega), Int.tmod_eq_emod_of_nonneg (by omega)]
        rfl
      have hlt : a % b < b := Nat.mod_lt _ (by omega)
      have hg : Nat.gcd a b = Nat.gcd b (a % b) := by
        rw [Nat.gcd_comm a b, Nat.gcd_rec b a, Nat.gcd_comm]
      rw [hg, i_divisor_l1, e, cond_true, hr, Option.bind_some]
      exact ih (a % b) b N (by omega) (by omega)
theorem low_ok (N : Nat) (a b : Nat) (hb : 0 < b) (hb2 : b ≤ 1000) (ha : a ≤ 1000000000) (hN : 1010 ≤ N) : ∃ g u v : Nat, a = g * u ∧ b = g * v ∧ 0 < g ∧ i_lowest N (a : Int) (b : Int) = some (Fraction.mk (u : Int) (v : Int)) := by
  obtain ⟨u, hu⟩ := Nat.gcd_dvd_left a b
  obtain ⟨v, hv⟩ := Nat.gcd_dvd_right a b
  have hg : 0 < Nat.gcd a b := Nat.gcd_pos_of_pos_right a hb
  refine ⟨Nat.gcd a b, u, v, hu, hv, hg, ?_⟩
  have hn : ¬ (a : Int) < 0 := by omega
  have hule : u ≤ a := by conv => rhs; rw [hu]
                          exact Nat.le_mul_of_pos_left u hg
  have hvle : v ≤ b := by conv => rhs; rw [hv]
                          exact Nat.le_mul_of_pos_left v hg
  have q : ∀ (x y : Nat), x = Nat.gcd a b * y → y ≤ 1000000000 → quoO (x : Int) (Nat.gcd a b : Int) = some (y : Int) := fun x y hx hy => by
    unfold quoO
    rw [if_neg (by omega), Int.tdiv_eq_ediv_of_nonneg (by omega)]
    have : (x : Int) / (Nat.gcd a b : Int) = (y : Int) := by
      have : x / Nat.gcd a b = y := by rw [hx]; exact Nat.mul_div_cancel_left y hg
      rw [← this]
      rfl
    rw [this, w64_id (by omega) (by omega)]
  have q1 := q a u hu (by omega)
  have q2 := q b v hv (by omega)
  have g1 := fun kj => gcd_l1 kj b b a N (Nat.le_refl _) (by omega)
  unfold i_lowest i_absolute i_divisor
  rw [decide_eq_false hn, cond_false, Option.bind_some, withK_n, g1, Option.bind_some, q1, Option.bind_some, q2, Option.bind_some]
theorem acc_ok (a b : Str) (ha : TX a) (hb : TX b) (hne : a ≠ []) (N : Nat) (hN : 2000 < N) : ∃ g u v : Nat, cnt 61 (alg a b) = g * u ∧ a.length = g * v ∧ 0 < g ∧ i_AccuracyOf N a b = some (Fraction.mk (u : Int) (v : Int), 0) := by
  obtain ⟨s1, s2, s3⟩ := alg_spec a b
  have ha1 := ha.1
  have hb1 := hb.1
  have hpos : 0 < a.length := List.length_pos_iff.2 hne
  have hcl := cnt_le 61 (alg a b)
  obtain ⟨g, u, v, h1, h2, h3, h4⟩ := low_ok N (cnt 61 (alg a b)) a.length hpos (by omega) (by omega) (by omega)
  refine ⟨g, u, v, h1, h2, h3, ?_⟩
  have hbe : (a == ([] : Str)) = false := beq_eq_false_iff_ne.2 hne
  unfold i_AccuracyOf
  rw [tx_ok a ha N (by omega), Option.bind_some, tx_ok b hb N (by omega), Bool.not_true, orO_false, Option.bind_some, Bool.not_true, Option.bind_some, cond_false, hbe, cond_false, al_ok a b ha1 hb1 N (by omega), Option.bind_some, cb_ok _ _ (by omega) N (by omega), Option.bind_some, h4, Option.bind_some]
theorem acc_nil (b : Str) (hb : TX b) (N : Nat) (hN : 2000 < N) : i_AccuracyOf N [] b = some (Fraction.mk 0 0, 3) := by
  have ha : TX ([] : Str) := ⟨by simp, fun c hc => by cases hc⟩
  unfold i_AccuracyOf
  rw [tx_ok [] ha N (by omega), Option.bind_some, tx_ok b hb N (by omega), Bool.not_true, orO_false, Option.bind_some, Bool.not_true, Option.bind_some, cond_false]
  rfl
def pw2 : Nat → Nat
  | 0 => 1
  | n + 1 => pw2 n * 2
theorem pw2_le : ∀ n, n ≤ 5 → 1 ≤ pw2 n ∧ pw2 n ≤ 32 := by decide
theorem mk_l1 (a : Str) (ha : a.length ≤ 60) (e : Int) (h0 : 0 ≤ e) (h1 : e ≤ 200) (kj : Int → Option (Int × Int)) : ∀ (q k N : Nat), k + q = 5 → q < N → ∃ m, k ≤ m ∧ m ≤ 5 ∧ i_MarkOf_l1 kj a e N ((k + 1 : Nat) : Int) (pw2 k : Int) = kj ((m + 1 : Nat) : Int) ∧ (∀ j, k ≤ j → j < m → 100 * e > pw2 j * a.length) ∧ (m = 5 ∨ 100 * e ≤ pw2 m * a.length) := by
  intro q
  induction q with
  | zero =>
    intro k N hk hN
    obtain ⟨N, rfl⟩ := pos_fuel hN
    obtain rfl : k = 5 := by omega
    refine ⟨5, Nat.le_refl _, Nat.le_refl _, ?_, fun j h1 h2 => by omega, .inl rfl⟩
    rw [i_MarkOf_l1, decide_eq_false (by omega : ¬ ((5 + 1 : Nat) : Int) < 6), andO_false, Option.bind_some, cond_false]
  | succ q ih =>
    intro k N hk hN
    obtain ⟨N, rfl⟩ := pos_fuel hN
    obtain ⟨p1, p2⟩ := pw2_le k (by omega)
    have hm0 : (0 : Int) ≤ (pw2 k : Int) * (a.length : Int) := Int.mul_nonneg (by omega) (by omega)
    have hm1 : (pw2 k : Int) * (a.length : Int) ≤ 32 * 60 := Int.mul_le_mul (by omega) (by omega) (by omega) (by omega)
    have hw1 : w64 (100 * e) = 100 * e := w64_id (by omega) (by omega)
    have hw2 : w64 ((pw2 k : Int) * (a.length : Int)) = (pw2 k : Int) * (a.length : Int) := w64_id (by omega) (by omega)
    by_cases hc : 100 * e > (pw2 k : Int) * (a.length : Int)
    · obtain ⟨m, g1, g2, g3, g4, g5⟩ := ih (k + 1) N (by omega) (by omega)
      refine ⟨m, by omega, g2, ?_, fun j h1 h2 => ?_, g5⟩
      · rw [i_MarkOf_l1, decide_eq_true (by omega : ((k + 1 : Nat) : Int) < 6), andO_true, Option.bind_some, hw1, hw2, decide_eq_true hc, cond_true, w64_nat (k + 1) (by omega), ← g3]
        have : w64 ((pw2 k : Int) * 2) = (pw2 (k + 1) : Int) := by
          rw [w64_id (by omega) (by omega)]
          show (pw2 k : Int) * 2 = ((pw2 k * 2 : Nat) : Int)
          omega
        rw [this]
      · by_cases hj : j = k
        · subst hj; exact hc
        · exact g4 j (by omega) h2
    · refine ⟨k, Nat.le_refl _, by omega, ?_, fun j h1 h2 => by omega, .inr (by omega)⟩
      rw [i_MarkOf_l1, decide_eq_true (by omega : ((k + 1 : Nat) : Int) < 6), andO_true, Option.bind_some, hw1, hw2, decide_eq_false hc, cond_false]
theorem mark_ok (a b : Str) (ha : TX a) (hb : TX b) (hne : a ≠ []) (N : Nat) (hN : 2000 < N) : ∃ m, m ≤ 5 ∧ i_MarkOf N a b = some (((m + 1 : Nat) : Int), 0) ∧ (∀ j, j < m → 100 * lev a b > pw2 j * a.length) ∧ (m = 5 ∨ 100 * lev a b ≤ pw2 m * a.length) := by
  have ha1 := ha.1
  have hb1 := hb.1
  obtain ⟨T, e, h1, h2⟩ := lf_ok a b ha1 hb1 N (by omega)
  obtain ⟨r, r1, r2, _⟩ := gt_some (h2 0 0 (Nat.zero_le _) (Nat.zero_le _))
  rw [show ((0 : Nat) : Int) = 0 from rfl] at r1 r2
  rw [List.drop_zero, List.drop_zero] at r2
  have hu := lev_up a b
  have hn := lev_nn a b
  obtain ⟨m, g1, g2, g3, g4, g5⟩ := mk_l1 a ha1 (lev a b) hn (by omega) (fun mark => some (mark, (0 : Int))) 5 0 N (by omega) (by omega)
  refine ⟨m, g2, ?_, fun j hj => g4 j (Nat.zero_le _) hj, g5⟩
  have hbe : (a == ([] : Str)) = false := beq_eq_false_iff_ne.2 hne
  unfold i_MarkOf
  rw [tx_ok a ha N (by omega), Option.bind_some, tx_ok b hb N (by omega), Bool.not_true, orO_false, Option.bind_some, Bool.not_true, Option.bind_some, cond_false, hbe, cond_false, e, Option.bind_some, r1, Option.bind_some, r2, Option.bind_some, withK_n]
  exact g3
theorem mark_nil (b : Str) (hb : TX b) (N : Nat) (hN : 2000 < N) : i_MarkOf N [] b = some (0, 3) := by
  have ha : TX ([] : Str) := ⟨by simp, fun c hc => by cases hc⟩
  unfold i_MarkOf
  rw [tx_ok [] ha N (by omega), Option.bind_some, tx_ok b hb N (by omega), Bool.not_true, orO_false, Option.bind_some, Bool.not_true, Option.bind_some, cond_false]
  rfl
theorem w_l1 (f : Nat → Nat) (G : Str) (hG : G.length ≤ 256) (hpos : ∀ c ∈ G, 0 < f c.toNat) (hpw : G.Pairwise fun a b => a.toNat < b.toNat) (kj : Option Bool) : ∀ (q x N : Nat), x + q = G.length → q < N → w_FnMarks_l1 kj (G, G.map (fun c => (f c.toNat : Int)), 0) N (x : Int) = kj := by
  intro q
  induction q with
  | zero =>
    intro x N hx hN
    obtain ⟨N, rfl⟩ := pos_fuel hN
    rw [w_FnMarks_l1, decide_eq_false (by omega : ¬ (x : Int) < (G.length : Int)), cond_false]
  | succ q ih =>
    intro x N hx hN
    obtain ⟨N, rfl⟩ := pos_fuel hN
    have hlt : x < G.length := by omega
    have h1 := hpos _ (List.getElem_mem hlt)
    have hi : idx (G.map (fun c => (f c.toNat : Int))) (x : Int) = some (f G[x].toNat : Int) := by
      rw [idx_lt _ x (by simpa using hlt), List.getElem_map]
    rw [w_FnMarks_l1, decide_eq_true (by omega : (x : Int) < (G.length : Int)), cond_true]
    show ((idx (G.map (fun c => (f c.toNat : Int))) (x : Int)).bind _) = _
    rw [hi, Option.bind_some, decide_eq_false (by omega : ¬ (f G[x].toNat : Int) < 1), orO_false, w64_nat x (by omega)]
    have hrec := ih (x + 1) N (by omega) (by omega)
    by_cases hx0 : x = 0
    · subst hx0
      rw [decide_eq_false (by omega : ¬ ((0 : Nat) : Int) > 0), andO_false, Option.bind_some, Option.bind_some, cond_false]
      exact hrec
    · have hlt2 : x - 1 < G.length := by omega
      have e1 : w64 ((x : Int) - 1) = ((x - 1 : Nat) : Int) := by rw [w64_id (by omega) (by omega)]; omega
      have hp := List.pairwise_iff_getElem.1 hpw (x - 1) x hlt2 hlt (by omega)
      have hcmp : decide (G[x - 1] ≥ G[x]) = false := decide_eq_false (by
        show ¬ G[x] ≤ G[x - 1]
        rw [UInt8.le_iff_toNat_le]; omega)
      rw [decide_eq_true (by omega : (x : Int) > 0), andO_true, e1, idx_lt G (x - 1) hlt2, Option.bind_some, idx_lt G x hlt, Option.bind_some, hcmp, Option.bind_some, Option.bind_some, cond_false]
      exact hrec
theorem w_l2 (m : Nat) (hm : m ≤ 5) (c : Int) (n : Nat) (hn : n ≤ 60) (e : Int) (he0 : 0 ≤ e) (he : e ≤ 200) (h : ∀ j, j < m → 100 * e > pw2 j * n) (kj : Int → Option Bool) : ∀ (q k N : Nat), k + q = m → q < N → w_FnMarks_l2 kj (((m + 1 : Nat) : Int), c) e N ((pw2 k * n : Nat) : Int) ((k + 1 : Nat) : Int) = kj ((pw2 m * n : Nat) : Int) := by
  intro q
  induction q with
  | zero =>
    intro k N hk hN
    obtain ⟨N, rfl⟩ := pos_fuel hN
    obtain rfl : k = m := by omega
    rw [w_FnMarks_l2, decide_eq_false (by show ¬ ((k + 1 : Nat) : Int) < ((k + 1 : Nat) : Int); omega), cond_false]
  | succ q ih =>
    intro k N hk hN
    obtain ⟨N, rfl⟩ := pos_fuel hN
    have hc := h k (by omega)
    obtain ⟨p1, p2⟩ := pw2_le k (by omega)
    have hm1 : pw2 k * n ≤ 32 * 60 := Nat.mul_le_mul p2 hn
    have e1 : (pw2 k : Int) * (n : Int) = ((pw2 k * n : Nat) : Int) := by rw [Int.natCast_mul]
    rw [e1] at hc
    have e2 : w64 (((pw2 k * n : Nat) : Int) * 2) = ((pw2 (k + 1) * n : Nat) : Int) := by
      rw [w64_id (by omega) (by omega), pw2, Nat.mul_right_comm]
      omega
    rw [w_FnMarks_l2, decide_eq_true (by show ((k + 1 : Nat) : Int) < ((m + 1 : Nat) : Int); omega), cond_true, w64_id (x := 100 * e) (by omega) (by omega), decide_eq_false (by omega), cond_false, e2, w64_nat (k + 1) (by omega)]
    exact ih (k + 1) N (by omega) (by omega)
theorem law_FnMarks (code : List UInt8) (_ : wfL wfByte code) : ∃ N, w_FnMarks N code = some true := by
  refine ⟨20000, ?_⟩
  obtain ⟨N, hN⟩ : ∃ N, N = 20000 := ⟨_, rfl⟩
  rw [← hN]
  unfold w_FnMarks
  have hw : ∃ q, w_a2Long code [] = some q := by
    unfold w_a2Long
    simp only [orO_some, Option.bind_some]
    exact ⟨_, rfl⟩
  obtain ⟨q, hq⟩ := hw
  rw [hq, Option.bind_some]
  cases q
  case true => rfl
  rw [cond_false]
  obtain ⟨⟨a, b⟩, e1, g1, g2, g3, g4⟩ := typed_ok code N (by omega)
  simp only at g1 g2 g3 g4
  have ha : TX a := ⟨by omega, g2⟩
  have hb : TX b := ⟨by omega, g4⟩
  obtain ⟨s1, s2, s3⟩ := alg_spec a b
  obtain ⟨f, f1, f2, f3⟩ := missed_ok a b ha hb N (by omega)
  have hc := al_cnt _ _ _ s1
  have her := er_cnt (alg a b) s1.mem
  rw [s2] at her
  have hu := lev_up a b
  have hn := lev_nn a b
  have c43 := cnt_le 43 (alg a b)
  have c45 := cnt_le 45 (alg a b)
  have c120 := cnt_le 120 (alg a b)
  have c126 := cnt_le 126 (alg a b)
  have c61 := cnt_le 61 (alg a b)
  have hAl := As_len f 256
  have hsum : w_a2Sum N ((As f 256).map fun c => (f c.toNat : Int)) = some ((cnt 45 (alg a b) + cnt 120 (alg a b) : Nat) : Int) := by
    rw [as_ok _ (by simp; omega) (fun v hv => by
      rw [List.mem_map] at hv
      obtain ⟨c, _, rfl⟩ := hv
      have := f1 c.toNat
      omega) N (by omega), As_sum f 256 (Nat.le_refl _), f2]
  have hsum2 : w_a2Sum N [(cnt 43 (alg a b) : Int), (cnt 45 (alg a b) : Int), (cnt 120 (alg a b) : Int), (cnt 126 (alg a b) : Int)] = some (lev a b) := by
    rw [as_ok _ (by simp) (fun v hv => by
      simp only [List.mem_cons, List.not_mem_nil, or_false] at hv
      omega) N (by omega), her]
    simp only [isum]
    congr 1; omega
  rw [e1, Option.bind_some]
  dsimp only
  rw [sal_ok a b ha hb N (by omega), Option.bind_some]
  dsimp only
  rw [ei_ok _ s1.mem (by omega) N (by omega), Option.bind_some, f3, Option.bind_some]
  have i1 : idx [(cnt 43 (alg a b) : Int), (cnt 45 (alg a b) : Int), (cnt 120 (alg a b) : Int), (cnt 126 (alg a b) : Int)] 1 = some (cnt 45 (alg a b) : Int) := rfl
  have i2 : idx [(cnt 43 (alg a b) : Int), (cnt 45 (alg a b) : Int), (cnt 120 (alg a b) : Int), (cnt 126 (alg a b) : Int)] 2 = some (cnt 120 (alg a b) : Int) := rfl
  have i3 : idx [(cnt 43 (alg a b) : Int), (cnt 45 (alg a b) : Int), (cnt 120 (alg a b) : Int), (cnt 126 (alg a b) : Int)] 3 = some (cnt 126 (alg a b) : Int) := rfl
  have z0 : ((0 : Int) != 0) = false := rfl
  have ll : (((As f 256).length : Int) != (((As f 256).map fun c => (f c.toNat : Int)).length : Int)) = false := by rw [List.length_map]; exact bne_self_eq_false' ..
  dsimp only
  rw [i1, i2, i3, hsum, hsum2, ll, z0]
  have hll : (((([(cnt 43 (alg a b) : Int), (cnt 45 (alg a b) : Int), (cnt 120 (alg a b) : Int), (cnt 126 (alg a b) : Int)] : List Int).length : Nat) : Int) != 4) = false := rfl
  have hs0 : (((cnt 45 (alg a b) + cnt 120 (alg a b) : Nat) : Int) != w64 ((cnt 45 (alg a b) : Int) + (cnt 120 (alg a b) : Int))) = false := by
    rw [w64_id (by omega) (by omega), Int.natCast_add]
    exact bne_self_eq_false' ..
  simp only [hll, hs0, orO_false, Option.bind_some, cond_false]
  have hw1 : ∀ kj, w_FnMarks_l1 kj (As f 256, (As f 256).map (fun c => (f c.toNat : Int)), 0) N 0 = kj := fun kj => w_l1 f (As f 256) hAl (fun c hc => (As_mem (Nat.le_refl _) hc).2) (As_pw f 256 (Nat.le_refl _)) kj (As f 256).length 0 N (by omega) (by omega)
  rw [withK_n, hw1]
  by_cases hne : a = []
  · subst hne
    rw [acc_nil b hb N (by omega), Option.bind_some, mark_nil b hb N (by omega), Option.bind_some]
    rfl
  · obtain ⟨g, u, v, h1, h2, h3, h4⟩ := acc_ok a b ha hb hne N (by omega)
    obtain ⟨m, m1, m2, m3, m4⟩ := mark_ok a b ha hb hne N (by omega)
    have hbe : (a == ([] : Str)) = false := beq_eq_false_iff_ne.2 hne
    have hpos : 0 < a.length := List.length_pos_iff.2 hne
    rw [h4, Option.bind_some, m2, Option.bind_some, hbe, cond_false]
    dsimp only
    have hv1 : 1 ≤ v := by
      rcases Nat.eq_zero_or_pos v with e | e
      · rw [e, Nat.mul_zero] at h2; omega
      · exact e
    have hv2 : v ≤ a.length := by rw [h2]; exact Nat.le_mul_of_pos_left v h3
    have hu2 : u ≤ cnt 61 (alg a b) := by rw [h1]; exact Nat.le_mul_of_pos_left u h3
    have hcross : (u : Int) * (a.length : Int) = (cnt 61 (alg a b) : Int) * (v : Int) := by
      rw [h1, h2, Int.natCast_mul, Int.natCast_mul, Int.mul_comm (g : Int) (u : Int), Int.mul_assoc]
    have hb1 : (u : Int) * (a.length : Int) ≤ 60 * 60 := Int.mul_le_mul (by omega) (by omega) (by omega) (by omega)
    have hb0 : (0 : Int) ≤ (u : Int) * (a.length : Int) := Int.mul_nonneg (by omega) (by omega)
    have hx : w64 (w64 (w64 ((a.length : Int) - (cnt 45 (alg a b) : Int)) - (cnt 120 (alg a b) : Int)) - w64 (2 * (cnt 126 (alg a b) : Int))) = (cnt 61 (alg a b) : Int) := by
      rw [w64_id (x := (a.length : Int) - (cnt 45 (alg a b) : Int)) (by omega) (by omega), w64_id (x := 2 * (cnt 126 (alg a b) : Int)) (by omega) (by omega), w64_id (x := (a.length : Int) - (cnt 45 (alg a b) : Int) - (cnt 120 (alg a b) : Int)) (by omega) (by omega), w64_id (by omega) (by omega)]
      omega
    have hw2 : ∀ kj, w_FnMarks_l2 kj (((m + 1 : Nat) : Int), 0) (lev a b) N (a.length : Int) 1 = kj ((pw2 m * a.length : Nat) : Int) := fun kj => by
      have := w_l2 m m1 0 a.length ha.1 (lev a b) hn (by omega) m3 kj m 0 N (by omega) (by omega)
      rw [show pw2 0 * a.length = a.length from Nat.one_mul _] at this
      exact this
    have hbne : (w64 ((u : Int) * (a.length : Int)) != w64 ((u : Int) * (a.length : Int))) = false := bne_self_eq_false' ..
    have d1 : decide ((v : Int) < 1) = false := decide_eq_false (by omega)
    have d2 : decide ((v : Int) > (a.length : Int)) = false := decide_eq_false (by omega)
    have d3 : decide (((m + 1 : Nat) : Int) < 1) = false := decide_eq_false (by omega)
    have d4 : decide (((m + 1 : Nat) : Int) > 6) = false := decide_eq_false (by omega)
    rw [hx, ← hcross]
    simp only [i1, i2, i3, z0, hbne, d1, d2, d3, d4, orO_false, Option.bind_some, cond_false]
    rw [withK_n, hw2]
    rcases m4 with rfl | m4
    · rfl
    · rw [w64_id (x := 100 * lev a b) (by omega) (by omega), decide_eq_true (by rw [Int.natCast_mul]; exact m4), orO_some, Bool.or_true]
      rfl
end Go.Proofs.Ytcegcmoeimjioaa
