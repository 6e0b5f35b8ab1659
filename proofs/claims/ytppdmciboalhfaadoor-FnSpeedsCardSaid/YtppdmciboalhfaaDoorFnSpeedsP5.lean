/-
  Plain lemmas on these functions. No conditions but those that each states.
-/
import Derived.Test.YtppdmciboalhfaaDoorFnSpeedsP4
namespace Go.Proofs.YtppdmciboalhfaaDoor
set_option linter.unusedVariables false
set_option linter.unusedSimpArgs false
/-! Trials. -/
def okTr (x : Trial) : Bool := (decide (x.strokes ≥ 0) && decide (x.strokes ≤ 100000)) && (decide (x.errors ≥ 0) && decide (x.errors ≤ x.strokes)) && (decide (x.seconds ≥ 1) && decide (x.seconds ≤ 7200))
theorem okTr_i (x : Trial) : i_validTrial x = some (okTr x) := by
  unfold i_validTrial i_between okTr
  simp only [andO_some, Option.bind_some]
theorem okTr_s (x : Trial) : s_l20One x = some (okTr x) := by
  unfold s_l20One s_l00In okTr
  simp only [andO_some, Option.bind_some]
theorem okTr_facts {x : Trial} (h : okTr x = true) : 0 ≤ x.strokes ∧ x.strokes ≤ 100000 ∧ 0 ≤ x.errors ∧ x.errors ≤ x.strokes ∧ 1 ≤ x.seconds ∧ x.seconds ≤ 7200 := by
  unfold okTr at h
  simp only [Bool.and_eq_true, decide_eq_true_eq] at h
  omega
def inB (n lo hi : Int) : Bool := decide (n ≥ lo) && decide (n ≤ hi)
theorem inB_i (n lo hi : Int) : i_between n lo hi = some (inB n lo hi) := by unfold i_between inB; simp only [andO_some, Option.bind_some]
theorem inB_s (n lo hi : Int) : s_l00In n lo hi = some (inB n lo hi) := by unfold s_l00In inB; simp only [andO_some, Option.bind_some]
theorem inB_iff {n lo hi : Int} : inB n lo hi = true ↔ lo ≤ n ∧ n ≤ hi := by unfold inB; simp
theorem pen_i (n : Int) : i_isPenalty n = some (inB n 0 50) := by unfold i_isPenalty; rw [inB_i]; rfl
theorem pen_s (n : Int) : s_l20Penalty n = some (inB n 0 50) := by unfold s_l20Penalty; rw [inB_s]; rfl
theorem tho_i (n : Int) : i_isThousand n = some (inB n 0 1000) := by unfold i_isThousand; rw [inB_i]; rfl
def cod (x : Trial) (p : Int) : Int := bif !okTr x then 1 else bif !inB p 0 50 then 2 else 0
theorem cod_i (x : Trial) (p : Int) : i_trialCode x p = some (cod x p) := by
  unfold i_trialCode cod
  simp only [okTr_i, pen_i, Option.bind_some]
  cases okTr x <;> cases inB p 0 50 <;> rfl
theorem cod_s (x : Trial) (p : Int) : s_l20Code x p = some (cod x p) := by
  unfold s_l20Code cod
  simp only [okTr_s, pen_s, Option.bind_some]
  cases okTr x <;> cases inB p 0 50 <;> rfl
theorem cod_zero {x : Trial} {p : Int} (h : cod x p = 0) : okTr x = true ∧ 0 ≤ p ∧ p ≤ 50 := by
  unfold cod at h
  cases h1 : okTr x with
  | false =>
    rw [h1] at h
    revert h
    cases inB p 0 50 <;> intro h <;> exact absurd h (by decide)
  | true =>
    rw [h1] at h
    cases h2 : inB p 0 50 with
    | false => rw [h2] at h; exact absurd h (by decide)
    | true => exact ⟨rfl, inB_iff.1 h2⟩
theorem cod_ok {x : Trial} {p : Int} (h1 : okTr x = true) (h2 : 0 ≤ p ∧ p ≤ 50) : cod x p = 0 := by
  unfold cod
  rw [h1, inB_iff.2 h2]
  rfl
def netW (x : Trial) (p : Int) : Int := imax (w64 (x.strokes - w64 (p * x.errors))) 0
theorem net_i (x : Trial) (p : Int) : i_Trial_net x p = some (netW x p) := rfl
theorem net_s (x : Trial) (p : Int) : s_l20Net x p = some (netW x p) := by
  unfold s_l20Net s_l00Max netW imax
  by_cases h : (0 : Int) > w64 (x.strokes - w64 (p * x.errors))
  · simp [h]
  · simp [h]
theorem mul_bound {p e : Int} (hp : 0 ≤ p) (hp2 : p ≤ 50) (he : 0 ≤ e) (he2 : e ≤ 100000) : 0 ≤ p * e ∧ p * e ≤ 5000000 := by
  refine ⟨Int.mul_nonneg hp he, ?_⟩
  have := Int.mul_le_mul hp2 he2 he (by omega : (0 : Int) ≤ 50)
  omega
theorem net_eq {x : Trial} {p : Int} (h : okTr x = true) (hp : 0 ≤ p) (hp2 : p ≤ 50) : netW x p = imax (x.strokes - p * x.errors) 0 := by
  obtain ⟨h1, h2, h3, h4, h5, h6⟩ := okTr_facts h
  have := mul_bound hp hp2 h3 (by omega)
  unfold netW
  rw [w64_id (x := p * x.errors) (by omega) (by omega), w64_id (by omega) (by omega)]
theorem net_facts {x : Trial} {p : Int} (h : okTr x = true) (hp : 0 ≤ p) (hp2 : p ≤ 50) : 0 ≤ netW x p ∧ netW x p ≤ x.strokes ∧ x.strokes - p * x.errors ≤ netW x p := by
  obtain ⟨h1, h2, h3, h4, h5, h6⟩ := okTr_facts h
  have := mul_bound hp hp2 h3 (by omega)
  rw [net_eq h hp hp2]
  unfold imax
  split <;> omega
/-! fractions -/
theorem gcd_l1 (kj : Int → Option Int) : ∀ (n b a N : Nat), b ≤ n → n < N → i_divisor_l1 kj N (a : Int) (b : Int) = kj (Nat.gcd a b : Int) ∧ s_l00Gcd_l1 kj N (a : Int) (b : Int) = kj (Nat.gcd a b : Int) := by
  intro n
  induction n with
  | zero =>
    intro b a N h1 h2
    obtain ⟨N, rfl⟩ := pos_fuel h2
    obtain rfl : b = 0 := by omega
    have e : (((0 : Nat) : Int) != 0) = false := rfl
    rw [Nat.gcd_zero_right]
    exact ⟨by simp only [i_divisor_l1, e, cond_false], by simp only [s_l00Gcd_l1, e, cond_false]⟩
  | succ n ih =>
    intro b a N h1 h2
    obtain ⟨N, rfl⟩ := pos_fuel h2
    by_cases hb : b = 0
    · subst hb
      have e : (((0 : Nat) : Int) != 0) = false := rfl
      rw [Nat.gcd_zero_right]
      exact ⟨by simp only [i_divisor_l1, e, cond_false], by simp only [s_l00Gcd_l1, e, cond_false]⟩
    · have e : ((b : Int) != 0) = true := by simp; omega
      have hr : remO (a : Int) (b : Int) = some ((a % b : Nat) : Int) := by
        unfold remO
        rw [if_neg (by omega), Int.tmod_eq_emod_of_nonneg (by omega)]
        rfl
      have hlt : a % b < b := Nat.mod_lt _ (by omega)
      obtain ⟨q1, q2⟩ := ih (a % b) b N (by omega) (by omega)
      have hg : Nat.gcd a b = Nat.gcd b (a % b) := by
        rw [Nat.gcd_comm a b, Nat.gcd_rec b a, Nat.gcd_comm]
      rw [hg]
      exact ⟨by simp only [i_divisor_l1, e, cond_true, hr, Option.bind_some, q1], by simp only [s_l00Gcd_l1, e, cond_true, hr, Option.bind_some, q2]⟩
theorem low_ok (N : Nat) (a b : Nat) (hb : 0 < b) (hb2 : b ≤ 1000000) (ha : a ≤ 1000000000) (hN : 1000010 ≤ N) : ∃ g u v : Nat, a = g * u ∧ b = g * v ∧ 0 < g ∧ i_lowest N (a : Int) (b : Int) = some (Fraction.mk (u : Int) (v : Int)) ∧ s_l02Make N (a : Int) (b : Int) = some (Fraction.mk (u : Int) (v : Int)) := by
  obtain ⟨u, hu⟩ := Nat.gcd_dvd_left a b
  obtain ⟨v, hv⟩ := Nat.gcd_dvd_right a b
  have hg : 0 < Nat.gcd a b := Nat.gcd_pos_of_pos_right a hb
  refine ⟨Nat.gcd a b, u, v, hu, hv, hg, ?_⟩
  have hn : ¬ (a : Int) < 0 := by omega
  have hule : u ≤ a := by conv => rhs; rw [hu]
                          exact Nat.le_mul_of_pos_left u hg
  have hvle : v ≤ b := by conv => rhs; rw [hv]
                          exact Nat.le_mul_of_pos_left v hg
  have q : ∀ (x y : Nat), x = Nat.gcd a b * y → y ≤ 1000000000 → quoO (x : Int) (Nat.gcd a b : Int) = some (y : Int) := fun x y hx hy => by
    unfold quoO
    rw [if_neg (by omega), Int.tdiv_eq_ediv_of_nonneg (by omega)]
    have : (x : Int) / (Nat.gcd a b : Int) = (y : Int) := by
      have : x / Nat.gcd a b = y := by rw [hx]; exact Nat.mul_div_cancel_left y hg
      rw [← this]
      rfl
    rw [this, w64_id (by omega) (by omega)]
  have q1 := q a u hu (by omega)
  have q2 := q b v hv (by omega)
  have g1 := fun kj => (gcd_l1 kj b b a N (Nat.le_refl _) (by omega)).1
  have g2 := fun kj => (gcd_l1 kj b b a N (Nat.le_refl _) (by omega)).2
  refine ⟨?_, ?_⟩
  · unfold i_lowest i_absolute i_divisor
    simp only [hn, decide_false, cond_false, withK_eq, Option.bind_some, g1, q1, q2]
  · unfold s_l02Make s_l00Size s_l00Gcd
    simp only [hn, decide_false, cond_false, withK_eq, Option.bind_some, g2, q1, q2]
theorem low_ok' (N : Nat) (a b : Int) (hb : 0 < b) (hb2 : b ≤ 1000000) (ha0 : 0 ≤ a) (ha : a ≤ 1000000000) (hN : 1000010 ≤ N) : ∃ f : Fraction, i_lowest N a b = some f ∧ s_l02Make N a b = some f ∧ f.num * b = a * f.den ∧ 0 ≤ f.num ∧ 0 < f.den ∧ f.num ≤ a ∧ f.den ≤ b := by
  obtain ⟨g, u, v, h1, h2, h3, h4, h5⟩ := low_ok N a.toNat b.toNat (by omega) (by omega) (by omega) hN
  rw [show ((a.toNat : Nat) : Int) = a by omega, show ((b.toNat : Nat) : Int) = b by omega] at h4 h5
  have ea : a = (g : Int) * u := by have := congrArg (fun n : Nat => (n : Int)) h1; simp only [Int.natCast_mul] at this; omega
  have eb : b = (g : Int) * v := by have := congrArg (fun n : Nat => (n : Int)) h2; simp only [Int.natCast_mul] at this; omega
  have hv : 0 < v := by
    rcases Nat.eq_zero_or_pos v with e | e
    · subst e; simp at eb; omega
    · exact e
  have ule : (u : Int) ≤ g * u := by
    have := Int.mul_le_mul_of_nonneg_right (show (1 : Int) ≤ g by omega) (show (0 : Int) ≤ u by omega)
    omega
  have vle : (v : Int) ≤ g * v := by
    have := Int.mul_le_mul_of_nonneg_right (show (1 : Int) ≤ g by omega) (show (0 : Int) ≤ v by omega)
    omega
  refine ⟨_, h4, h5, ?_, by show (0 : Int) ≤ u; omega, by show (0 : Int) < v; omega, by show (u : Int) ≤ a; rw [ea]; exact ule, by show (v : Int) ≤ b; rw [eb]; exact vle⟩
  show (u : Int) * b = a * v
  rw [ea, eb, ← Int.mul_assoc, Int.mul_comm (u : Int) g]
/-! the texts of trials -/
def frm (a b c : Nat) : Str := Lib.itoa (a : Int) ++ [47] ++ (Lib.itoa (b : Int) ++ [32, 105, 110, 32] ++ (Lib.itoa (c : Int) ++ [115]))
theorem itoa_len (n : Nat) (h : n ≤ 1000000) : (Lib.itoa (n : Int)).length ≤ 20 ∧ 1 ≤ (Lib.itoa (n : Int)).length := (Dec_eq 100 (n : Int) (by omega) (by omega) (by omega)).2.2
theorem frm_len (a b c : Nat) (ha : a ≤ 1000000) (hb : b ≤ 1000000) (hc : c ≤ 1000000) : (frm a b c).length ≤ 100 := by
  unfold frm
  have h1 := itoa_len a ha
  have h2 := itoa_len b hb
  have h3 := itoa_len c hc
  simp
  omega
theorem cat6 (A B C : Str) (h1 : A.length ≤ 20) (h2 : B.length ≤ 20) (h3 : C.length ≤ 20) :
    ((cat A [47]).bind fun s6 => (cat s6 B).bind fun s10 => (cat s10 [32, 105, 110, 32]).bind fun s12 => (cat s12 C).bind fun s16 => (cat s16 [115]).bind fun s18 => some s18) = some (A ++ [47] ++ (B ++ [32, 105, 110, 32] ++ (C ++ [115]))) := by
  rw [cat_some _ _ (by unfold LIM; simp; omega), Option.bind_some, cat_some _ _ (by unfold LIM; simp; omega), Option.bind_some, cat_some _ _ (by unfold LIM; simp; omega), Option.bind_some, cat_some _ _ (by unfold LIM; simp; omega), Option.bind_some, cat_some _ _ (by unfold LIM; simp; omega), Option.bind_some]
  simp
theorem sText_ok (N : Nat) (x : Trial) (h1 : 0 ≤ x.strokes ∧ x.strokes ≤ 1000000) (h2 : 0 ≤ x.errors ∧ x.errors ≤ 1000000) (h3 : 0 ≤ x.seconds ∧ x.seconds ≤ 1000000) (hN : 100 ≤ N) : s_l20Text N x = some (frm x.strokes.toNat x.errors.toNat x.seconds.toNat) := by
  have d := fun (n : Int) (h : 0 ≤ n ∧ n ≤ 1000000) => (Dec_eq N n (by omega) (by omega) (by omega)).1
  have l := fun (n : Int) (h : 0 ≤ n ∧ n ≤ 1000000) => (Dec_eq N n (by omega) (by omega) (by omega)).2.2.1
  unfold s_l20Text
  rw [d _ h1, Option.bind_some]
  have := cat6 _ _ _ (l _ h1) (l _ h2) (l _ h3)
  simp only [d _ h2, d _ h3, Option.bind_some]
  rw [this]
  unfold frm
  rw [show ((x.strokes.toNat : Nat) : Int) = x.strokes by omega, show ((x.errors.toNat : Nat) : Int) = x.errors by omega, show ((x.seconds.toNat : Nat) : Int) = x.seconds by omega]
theorem iText_ok (x : Trial) (h : okTr x = true) : i_TrialText x = some (frm x.strokes.toNat x.errors.toNat x.seconds.toNat) := by
  obtain ⟨h1, h2, h3, h4, h5, h6⟩ := okTr_facts h
  have d := fun (n : Int) (h : 0 ≤ n ∧ n ≤ 1000000) => (Dec_eq 100 n (by omega) (by omega) (by omega)).2.1
  have l := fun (n : Int) (h : 0 ≤ n ∧ n ≤ 1000000) => (Dec_eq 100 n (by omega) (by omega) (by omega)).2.2.1
  unfold i_TrialText
  rw [okTr_i, h, Option.bind_some]
  have := cat6 _ _ _ (l x.strokes (by omega)) (l x.errors (by omega)) (l x.seconds (by omega))
  simp only [Bool.not_true, cond_false, d x.strokes (by omega), d x.errors (by omega), d x.seconds (by omega), Option.bind_some]
  rw [this]
  unfold frm
  rw [show ((x.strokes.toNat : Nat) : Int) = x.strokes by omega, show ((x.errors.toNat : Nat) : Int) = x.errors by omega, show ((x.seconds.toNat : Nat) : Int) = x.seconds by omega]
/-- a text that reads, one way -/
theorem iRead_ok (N : Nat) (s : Str) (hs : s.length ≤ 500) (hN : 1200 ≤ N) : ∃ r, i_ReadTrial N s = some r ∧ (r.2 = false → r = (⟨0, 0, 0⟩, false)) ∧ (r.2 = true → okTr r.1 = true ∧ s = frm r.1.strokes.toNat r.1.errors.toNat r.1.seconds.toNat) := by
  unfold i_ReadTrial
  obtain ⟨r3, e1, f1, l1, l2⟩ := cut_ok N s [47] (by omega) (by simp) (by simp) (by omega)
  obtain ⟨r5, e2, f2, l3, l4⟩ := cut_ok N r3.2.1 [32, 105, 110, 32] (by omega) (by simp) (by simp) (by omega)
  obtain ⟨r7, e3, f3, l5⟩ := suffix_ok r5.2.1 (by omega)
  simp only [e1, e2, e3, Option.bind_some, orO_some]
  have n1 := (Read_ok N r3.1 (by omega) (by omega)).1
  have n2 := (Read_ok N r5.1 (by omega) (by omega)).1
  have n3 := (Read_ok N r7.1 (by omega) (by omega)).1
  cases c1 : r3.2.2 with
  | false => exact ⟨_, rfl, fun _ => rfl, fun h => (by cases h)⟩
  | true =>
    cases c2 : r5.2.2 with
    | false => exact ⟨_, rfl, fun _ => rfl, fun h => (by cases h)⟩
    | true =>
      cases c3 : r7.2 with
      | false => exact ⟨_, rfl, fun _ => rfl, fun h => (by cases h)⟩
      | true =>
        simp only [Bool.not_true, Bool.or_self, cond_false, n1, n2, n3, Option.bind_some, okTr_i]
        cases d1 : (rdv r3.1).2 with
        | false => exact ⟨_, rfl, fun _ => rfl, fun h => (by cases h)⟩
        | true =>
          cases d2 : (rdv r5.1).2 with
          | false => exact ⟨_, rfl, fun _ => rfl, fun h => (by cases h)⟩
          | true =>
            cases d3 : (rdv r7.1).2 with
            | false => exact ⟨_, rfl, fun _ => rfl, fun h => (by cases h)⟩
            | true =>
              cases d4 : okTr (Trial.mk (rdv r3.1).1 (rdv r5.1).1 (rdv r7.1).1) with
              | false => exact ⟨_, rfl, fun _ => rfl, fun h => (by cases h)⟩
              | true =>
                refine ⟨_, rfl, fun h => (by cases h), fun _ => ⟨d4, ?_⟩⟩
                obtain ⟨h1, h2, h3, h4, h5, h6⟩ := okTr_facts d4
                simp only at h1 h3 h5
                unfold frm
                simp only
                rw [show (((rdv r3.1).1.toNat : Nat) : Int) = (rdv r3.1).1 by omega, show (((rdv r5.1).1.toNat : Nat) : Int) = (rdv r5.1).1 by omega, show (((rdv r7.1).1.toNat : Nat) : Int) = (rdv r7.1).1 by omega]
                rw [← rdv_sound d1, ← rdv_sound d2, ← rdv_sound d3, ← f3 c3, ← f2 c2, ← f1 c1]
theorem iRead_frm (N : Nat) (x : Trial) (h : okTr x = true) (hN : 1200 ≤ N) : i_ReadTrial N (frm x.strokes.toNat x.errors.toNat x.seconds.toNat) = some (x, true) := by
  obtain ⟨h1, h2, h3, h4, h5, h6⟩ := okTr_facts h
  have hl := frm_len x.strokes.toNat x.errors.toNat x.seconds.toNat (by omega) (by omega) (by omega)
  have ca := itoa_chars x.strokes.toNat
  have cb := itoa_chars x.errors.toNat
  have hl2 := hl
  unfold frm at hl2
  simp only [List.length_append, List.length_cons, List.length_nil] at hl2
  have k1 := cut_found N (Lib.itoa (x.strokes.toNat : Int)) (Lib.itoa (x.errors.toNat : Int) ++ [32, 105, 110, 32] ++ (Lib.itoa (x.seconds.toNat : Int) ++ [115])) [47] 47 [] rfl (fun hm => (ca 47 hm).2.1 rfl) (by simp only [List.length_append, List.length_cons, List.length_nil]; omega) (by omega)
  have k2 := cut_found N (Lib.itoa (x.errors.toNat : Int)) (Lib.itoa (x.seconds.toNat : Int) ++ [115]) [32, 105, 110, 32] 32 [105, 110, 32] rfl (fun hm => (cb 32 hm).1 rfl) (by simp only [List.length_append, List.length_cons, List.length_nil]; omega) (by omega)
  have k3 := suffix_at (Lib.itoa (x.seconds.toNat : Int)) (by omega)
  have n1 := (Read_ok N (Lib.itoa (x.strokes.toNat : Int)) (by omega) (by omega)).1
  have n2 := (Read_ok N (Lib.itoa (x.errors.toNat : Int)) (by omega) (by omega)).1
  have n3 := (Read_ok N (Lib.itoa (x.seconds.toNat : Int)) (by omega) (by omega)).1
  rw [rdv_itoa _ (by omega)] at n1 n2 n3
  have hx : (Trial.mk (x.strokes.toNat : Int) (x.errors.toNat : Int) (x.seconds.toNat : Int)) = x := by
    cases x; simp only at h1 h3 h5 ⊢; congr <;> omega
  unfold i_ReadTrial frm
  simp only [k1, k2, k3, n1, n2, n3, Option.bind_some, orO_some, Bool.not_true, Bool.or_self, cond_false, okTr_i, hx, h]
/-- .. the other way -/
theorem sRead_ok (N : Nat) (s : Str) (hs : s.length ≤ 500) (hN : 1200 ≤ N) : ∃ r, s_ReadTrial N s = some r ∧ (r.2 = false → r = (⟨0, 0, 0⟩, false)) ∧ (r.2 = true → okTr r.1 = true ∧ s = frm r.1.strokes.toNat r.1.errors.toNat r.1.seconds.toNat) := by
  unfold s_ReadTrial
  rw [Split_ok N s 32 (by omega) (by omega), Option.bind_some]
  have hj := joi_spl 32 s
  by_cases hlen : (spl 32 s).length = 3
  · obtain ⟨w0, w1, w2, hw⟩ : ∃ w0 w1 w2, spl 32 s = [w0, w1, w2] := by
      match h : spl 32 s with
      | [a, b, c] => exact ⟨a, b, c, rfl⟩
      | [] => rw [h] at hlen; cases hlen
      | [a] => rw [h] at hlen; cases hlen
      | [a, b] => rw [h] at hlen; cases hlen
      | a :: b :: c :: d :: r => rw [h] at hlen; simp at hlen
    rw [hw] at hj ⊢
    simp only [joi] at hj
    have hsl := congrArg List.length hj
    simp at hsl
    have i1 : idx [w0, w1, w2] 1 = some w1 := rfl
    have i2 : idx [w0, w1, w2] 2 = some w2 := rfl
    have i0 : idx [w0, w1, w2] 0 = some w0 := rfl
    have e3 : ((([w0, w1, w2] : List Str).length : Int) != 3) = false := rfl
    simp only [e3, i1, i2, i0, Option.bind_some, orO_some, Bool.false_or]
    cases c1 : (w1 != [105, 110]) with
    | true => exact ⟨_, rfl, fun _ => rfl, fun h => (by cases h)⟩
    | false =>
      have hw1 : w1 = [105, 110] := by simpa using c1
      cases c2 : (w2 == []) with
      | true => exact ⟨_, rfl, fun _ => rfl, fun h => (by cases h)⟩
      | false =>
        have hne : w2 ≠ [] := by simpa using c2
        have hpos : 0 < w2.length := List.length_pos_iff.2 hne
        have ew : w64 ((w2.length : Int) - 1) = ((w2.length - 1 : Nat) : Int) := by rw [w64_id (by omega) (by omega)]; omega
        rw [ew, idx_lt w2 _ (by omega)]
        simp only [orO_false, Option.bind_some]
        cases c3 : (w2[w2.length - 1] != 115) with
        | true => exact ⟨_, rfl, fun _ => rfl, fun h => (by cases h)⟩
        | false =>
          have h115 : w2[w2.length - 1] = 115 := by simpa using c3
          have hsub : sub w2 0 ((w2.length - 1 : Nat) : Int) = some (w2.take (w2.length - 1)) := by
            rw [sub_some _ _ _ (by omega) (by omega) (by omega)]
            simp
          have hw2 : w2 = w2.take (w2.length - 1) ++ [115] := by
            conv => lhs; rw [← List.take_append_drop (w2.length - 1) w2]
            congr 1
            rw [List.drop_eq_getElem_cons (by omega), h115, List.drop_of_length_le (by omega)]
          rw [Split_ok N w0 47 (by omega) (by omega), Option.bind_some, hsub]
          simp only [cond_false, Option.bind_some]
          have hj2 := joi_spl 47 w0
          by_cases hlen2 : (spl 47 w0).length = 2
          · obtain ⟨v0, v1, hv⟩ : ∃ v0 v1, spl 47 w0 = [v0, v1] := by
              match h : spl 47 w0 with
              | [a, b] => exact ⟨a, b, rfl⟩
              | [] => rw [h] at hlen2; cases hlen2
              | [a] => rw [h] at hlen2; cases hlen2
              | a :: b :: c :: r => rw [h] at hlen2; simp at hlen2
            rw [hv] at hj2 ⊢
            simp only [joi] at hj2
            have hsl2 := congrArg List.length hj2
            simp at hsl2
            have j0 : idx [v0, v1] 0 = some v0 := rfl
            have j1 : idx [v0, v1] 1 = some v1 := rfl
            have e4 : ((([v0, v1] : List Str).length : Int) != 2) = false := rfl
            have n1 := (Read_ok N v0 (by omega) (by omega)).2
            have n2 := (Read_ok N v1 (by omega) (by omega)).2
            have n3 := (Read_ok N (w2.take (w2.length - 1)) (by simp; omega) (by omega)).2
            simp only [e4, cond_false, j0, j1, Option.bind_some, n1, n2, n3, okTr_s]
            cases d1 : (rdv v0).2 with
            | false => exact ⟨_, rfl, fun _ => rfl, fun h => (by cases h)⟩
            | true =>
              cases d2 : (rdv v1).2 with
              | false => exact ⟨_, rfl, fun _ => rfl, fun h => (by cases h)⟩
              | true =>
                cases d3 : (rdv (w2.take (w2.length - 1))).2 with
                | false => exact ⟨_, rfl, fun _ => rfl, fun h => (by cases h)⟩
                | true =>
                  cases d4 : okTr (Trial.mk (rdv v0).1 (rdv v1).1 (rdv (w2.take (w2.length - 1))).1) with
                  | false => exact ⟨_, rfl, fun _ => rfl, fun h => (by cases h)⟩
                  | true =>
                    refine ⟨_, rfl, fun h => (by cases h), fun _ => ⟨d4, ?_⟩⟩
                    obtain ⟨h1, h2, h3, h4, h5, h6⟩ := okTr_facts d4
                    simp only at h1 h3 h5
                    unfold frm
                    simp only
                    rw [show (((rdv v0).1.toNat : Nat) : Int) = (rdv v0).1 by omega, show (((rdv v1).1.toNat : Nat) : Int) = (rdv v1).1 by omega, show (((rdv (w2.take (w2.length - 1))).1.toNat : Nat) : Int) = (rdv (w2.take (w2.length - 1))).1 by omega]
                    rw [← rdv_sound d1, ← rdv_sound d2, ← rdv_sound d3, ← hw2, ← hj, ← hj2, hw1]
                    simp
          · have e4 : (((spl 47 w0).length : Int) != 2) = true := by simp; omega
            simp only [e4, cond_true]
            exact ⟨_, rfl, fun _ => rfl, fun h => (by cases h)⟩
  · have e3 : (((spl 32 s).length : Int) != 3) = true := by simp; omega
    simp only [e3, orO_true, Option.bind_some, cond_true]
    exact ⟨_, rfl, fun _ => rfl, fun h => (by cases h)⟩
theorem sRead_frm (N : Nat) (x : Trial) (h : okTr x = true) (hN : 1200 ≤ N) : s_ReadTrial N (frm x.strokes.toNat x.errors.toNat x.seconds.toNat) = some (x, true) := by
  obtain ⟨h1, h2, h3, h4, h5, h6⟩ := okTr_facts h
  have hl := frm_len x.strokes.toNat x.errors.toNat x.seconds.toNat (by omega) (by omega) (by omega)
  have ca := itoa_chars x.strokes.toNat
  have cb := itoa_chars x.errors.toNat
  have cc := itoa_chars x.seconds.toNat
  have hl2 := hl
  unfold frm at hl2
  simp only [List.length_append, List.length_cons, List.length_nil] at hl2
  obtain ⟨A, hA⟩ : ∃ A, A = Lib.itoa (x.strokes.toNat : Int) := ⟨_, rfl⟩
  obtain ⟨B, hB⟩ : ∃ B, B = Lib.itoa (x.errors.toNat : Int) := ⟨_, rfl⟩
  obtain ⟨C, hC⟩ : ∃ C, C = Lib.itoa (x.seconds.toNat : Int) := ⟨_, rfl⟩
  have n1 := (Read_ok N (Lib.itoa (x.strokes.toNat : Int)) (by omega) (by omega)).2
  have n2 := (Read_ok N (Lib.itoa (x.errors.toNat : Int)) (by omega) (by omega)).2
  have n3 := (Read_ok N (Lib.itoa (x.seconds.toNat : Int)) (by omega) (by omega)).2
  rw [rdv_itoa _ (by omega)] at n1 n2 n3
  have hx : (Trial.mk (x.strokes.toNat : Int) (x.errors.toNat : Int) (x.seconds.toNat : Int)) = x := by
    cases x; simp only at h1 h3 h5 ⊢; congr <;> omega
  unfold frm at hl ⊢
  rw [← hA, ← hB, ← hC] at hl ⊢
  rw [← hA] at ca n1 hl2
  rw [← hB] at cb n2 hl2
  rw [← hC] at cc n3 hl2
  have s1 : spl 32 (A ++ [47] ++ (B ++ [32, 105, 110, 32] ++ (C ++ [115]))) = [A ++ [47] ++ B, [105, 110], C ++ [115]] := by
    rw [show A ++ [47] ++ (B ++ [32, 105, 110, 32] ++ (C ++ [115])) = (A ++ [47] ++ B) ++ 32 :: ([105, 110] ++ 32 :: (C ++ [115])) by simp]
    rw [spl_word 32 _ _ (by
      intro hm
      simp only [List.mem_append, List.mem_singleton] at hm
      rcases hm with (hm | hm) | hm
      · exact (ca 32 hm).1 rfl
      · cases hm
      · exact (cb 32 hm).1 rfl), spl_word 32 _ _ (by decide), spl_last 32 _ (by
      intro hm
      simp only [List.mem_append, List.mem_singleton] at hm
      rcases hm with hm | hm
      · exact (cc 32 hm).1 rfl
      · cases hm)]
  have s2 : spl 47 (A ++ [47] ++ B) = [A, B] := by
    rw [show A ++ [47] ++ B = A ++ 47 :: B by simp, spl_word 47 _ _ (fun hm => (ca 47 hm).2.1 rfl), spl_last 47 _ (fun hm => (cb 47 hm).2.1 rfl)]
  have i1 : idx [A ++ [47] ++ B, [105, 110], C ++ [115]] 1 = some [105, 110] := rfl
  have i2 : idx [A ++ [47] ++ B, [105, 110], C ++ [115]] 2 = some (C ++ [115]) := rfl
  have i0 : idx [A ++ [47] ++ B, [105, 110], C ++ [115]] 0 = some (A ++ [47] ++ B) := rfl
  have e3 : ((([A ++ [47] ++ B, [105, 110], C ++ [115]] : List Str).length : Int) != 3) = false := rfl
  have c1 : (([105, 110] : Str) != [105, 110]) = false := rfl
  have c2 : ((C ++ [115]) == ([] : Str)) = false := by rw [beq_eq_false_iff_ne]; simp
  have ew : w64 (((C ++ [115]).length : Int) - 1) = (C.length : Int) := by simp only [List.length_append, List.length_singleton]; rw [w64_id (by omega) (by omega)]; omega
  have ix : idx (C ++ [115]) (C.length : Int) = some 115 := by rw [idx_nat, List.getElem?_append_right (Nat.le_refl _)]; simp
  have c3 : ((115 : UInt8) != 115) = false := rfl
  have hsub : sub (C ++ [115]) 0 (C.length : Int) = some C := by
    rw [sub_some _ _ _ (by omega) (by omega) (by simp; omega)]
    simp
  have j0 : idx [A, B] 0 = some A := rfl
  have j1 : idx [A, B] 1 = some B := rfl
  have e4 : ((([A, B] : List Str).length : Int) != 2) = false := rfl
  unfold s_ReadTrial
  rw [Split_ok N _ 32 (by omega) (by omega), s1, Option.bind_some]
  simp only [e3, i1, i2, i0, c1, c2, ew, ix, c3, orO_false, Option.bind_some, cond_false]
  rw [Split_ok N (A ++ [47] ++ B) 47 (by simp; omega) (by omega), s2, Option.bind_some]
  simp only [e4, cond_false, j0, j1, hsub, n1, n2, n3, Option.bind_some, orO_some, Bool.not_true, Bool.or_self, okTr_s, hx, h]
theorem Read_both (N : Nat) (s : Str) (hs : s.length ≤ 500) (hN : 1200 ≤ N) : ∃ r, i_ReadTrial N s = some r ∧ s_ReadTrial N s = some r := by
  obtain ⟨r, e1, f1, g1⟩ := iRead_ok N s hs hN
  obtain ⟨q, e2, f2, g2⟩ := sRead_ok N s hs hN
  cases h1 : r.2 with
  | true =>
    obtain ⟨k1, k2⟩ := g1 h1
    have := sRead_frm N r.1 k1 hN
    rw [← k2] at this
    refine ⟨(r.1, true), ?_, this⟩
    rw [e1, ← h1]
  | false =>
    cases h2 : q.2 with
    | true =>
      obtain ⟨k1, k2⟩ := g2 h2
      have := iRead_frm N q.1 k1 hN
      rw [← k2, e1] at this
      have := congrArg (fun z => z.map Prod.snd) this
      simp at this
      rw [h1] at this
      cases this
    | false =>
      refine ⟨r, e1, ?_⟩
      rw [e2, f1 h1, f2 h2]
end Go.Proofs.YtppdmciboalhfaaDoor
