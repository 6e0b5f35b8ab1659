/-
  Plain lemmas on these functions. No conditions but those that each states.
-/
import Derived.Test.YtikkolkickclhaaFnPrizesP7
namespace Go.Proofs.Ytikkolkickclhaa
set_option linter.unusedVariables false
set_option linter.unusedSimpArgs false
/-! Fractions. -/
theorem gcd_l1 (kj : Int → Option Int) : ∀ (n b a N : Nat), b ≤ n → n < N → i_divisor_l1 kj N (a : Int) (b : Int) = kj (Nat.gcd a b : Int) ∧ s_l00Gcd_l1 kj N (a : Int) (b : Int) = kj (Nat.gcd a b : Int) := by
  intro n
  induction n with
  | zero =>
    intro b a N h1 h2
    obtain ⟨N, rfl⟩ := pos_fuel h2
    obtain rfl : b = 0 := by omega
    have e : (((0 : Nat) : Int) != 0) = false := rfl
    rw [Nat.gcd_zero_right]
    exact ⟨by simp only [i_divisor_l1, e, cond_false], by simp only [s_l00Gcd_l1, e, cond_false]⟩
  | succ n ih =>
    intro b a N h1 h2
    obtain ⟨N, rfl⟩ := pos_fuel h2
    by_cases hb : b = 0
    · subst hb
      have e : (((0 : Nat) : Int) != 0) = false := rfl
      rw [Nat.gcd_zero_right]
      exact ⟨by simp only [i_divisor_l1, e, cond_false], by simp only [s_l00Gcd_l1, e, cond_false]⟩
    · have e : ((b : Int) != 0) = true := by simp; omega
      have hr : remO (a : Int) (b : Int) = some ((a % b : Nat) : Int) := by
        unfold remO
        rw [if_neg (by omega), Int.tmod_eq_emod_of_nonneg (by omega)]
        rfl
      have hlt : a % b < b := Nat.mod_lt _ (by omega)
      obtain ⟨q1, q2⟩ := ih (a % b) b N (by omega) (by omega)
      have hg : Nat.gcd a b = Nat.gcd b (a % b) := by
        rw [Nat.gcd_comm a b, Nat.gcd_rec b a, Nat.gcd_comm]
      rw [hg]
      exact ⟨by simp only [i_divisor_l1, e, cond_true, hr, Option.bind_some, q1], by simp only [s_l00Gcd_l1, e, cond_true, hr, Option.bind_some, q2]⟩
theorem quo_nat (a b : Nat) (hb : 0 < b) (ha : a < 9000000000000000000) : quoO (a : Int) (b : Int) = some ((a / b : Nat) : Int) := by
  unfold quoO
  have hle : a / b ≤ a := Nat.div_le_self _ _
  have e : (a : Int) / (b : Int) = ((a / b : Nat) : Int) := rfl
  rw [if_neg (by omega), Int.tdiv_eq_ediv_of_nonneg (by omega), e]
  generalize a / b = q at hle
  rw [w64_id (by omega) (by omega)]
/-- in lowest terms -/
def fr (a b : Nat) : Fraction := ⟨((a / Nat.gcd a b : Nat) : Int), ((b / Nat.gcd a b : Nat) : Int)⟩
theorem low_ok (N : Nat) (a b : Nat) (hb : 0 < b) (hb2 : b < N) (hb3 : b < 9000000000000000000) (ha : a < 9000000000000000000) : i_lowest N (a : Int) (b : Int) = some (fr a b) ∧ s_l02Make N (a : Int) (b : Int) = some (fr a b) := by
  have hg : 0 < Nat.gcd a b := Nat.gcd_pos_of_pos_right a hb
  have hn : ¬ (a : Int) < 0 := by omega
  have g1 := fun kj => (gcd_l1 kj b b a N (Nat.le_refl _) hb2).1
  have g2 := fun kj => (gcd_l1 kj b b a N (Nat.le_refl _) hb2).2
  refine ⟨?_, ?_⟩
  · unfold i_lowest i_absolute i_divisor
    simp only [hn, decide_false, cond_false, withK_n, Option.bind_some, g1, quo_nat _ _ hg ha, quo_nat _ _ hg hb3]
    rfl
  · unfold s_l02Make s_l00Size s_l00Gcd
    simp only [hn, decide_false, cond_false, withK_n, Option.bind_some, g2, quo_nat _ _ hg ha, quo_nat _ _ hg hb3]
    rfl
theorem fr_mul (g a b : Nat) (hg : 0 < g) : fr (g * a) (g * b) = fr a b := by
  unfold fr
  rw [Nat.gcd_mul_left, Nat.mul_div_mul_left _ _ hg, Nat.mul_div_mul_left _ _ hg]
/-- what is known of a fraction: its parts, its bound, what its lower part divides -/
structure FG (D C : Nat) (f : Fraction) (u v : Nat) : Prop where
  e : f = ⟨(u : Int), (v : Int)⟩
  v0 : 0 < v
  dv : v ∣ D
  bd : u ≤ C * v
theorem fr_parts (a b : Nat) (hb : 0 < b) : ∃ g u v : Nat, 0 < g ∧ a = g * u ∧ b = g * v ∧ 0 < v ∧ Nat.Coprime u v ∧ fr a b = ⟨(u : Int), (v : Int)⟩ := by
  have hg : 0 < Nat.gcd a b := Nat.gcd_pos_of_pos_right a hb
  refine ⟨Nat.gcd a b, a / Nat.gcd a b, b / Nat.gcd a b, hg, (Nat.mul_div_cancel' (Nat.gcd_dvd_left a b)).symm, (Nat.mul_div_cancel' (Nat.gcd_dvd_right a b)).symm, ?_, ?_, rfl⟩
  · exact Nat.div_pos (Nat.le_of_dvd hb (Nat.gcd_dvd_right a b)) hg
  · exact Nat.coprime_div_gcd_div_gcd hg
theorem fr_FG {D C a b : Nat} (hb : 0 < b) (hd : b ∣ a * D) (hc : a ≤ C * b) : ∃ u v, FG D C (fr a b) u v ∧ u * b = a * v ∧ v ≤ b := by
  obtain ⟨g, u, v, hg, ha, hbv, hv, hco, e⟩ := fr_parts a b hb
  refine ⟨u, v, ⟨e, hv, ?_, ?_⟩, ?_, ?_⟩
  · rw [ha, hbv, Nat.mul_assoc] at hd
    have h1 := Nat.dvd_of_mul_dvd_mul_left hg hd
    exact (hco.symm).dvd_of_dvd_mul_left h1
  · rw [ha, hbv, Nat.mul_left_comm] at hc
    exact Nat.le_of_mul_le_mul_left hc hg
  · rw [ha, hbv, Nat.mul_left_comm, Nat.mul_assoc]
  · rw [hbv]; exact Nat.le_mul_of_pos_left v hg
/-- two of them together, as either side adds them -/
theorem fr_add (N : Nat) {D C C' u v u' v' : Nat} {f f' : Fraction} (h : FG D C f u v) (h' : FG D C' f' u' v') (hD0 : 0 < D) (hv40 : v' ≤ 40) (hDb : D ≤ 2300000) (hC : C ≤ 4000000) (hC' : C' ≤ 100000) (hN : 100000000 < N) :
    ∃ w u2 v2, FG D (C + C') w u2 v2 ∧ i_lowest N (w64 (w64 (f.num * f'.den) + w64 (f'.num * f.den))) (w64 (f.den * f'.den)) = some w ∧ s_l22Add N f f' = some w := by
  obtain ⟨rfl, hv, hd, hb⟩ := h
  obtain ⟨rfl, hv', hd', hb'⟩ := h'
  have hvD : v ≤ D := Nat.le_of_dvd hD0 hd
  have b1 : u ≤ 9200000000000 := by
    have : C * v ≤ 4000000 * 2300000 := Nat.mul_le_mul hC (by omega)
    omega
  have b2 : u' ≤ 4000000 := by
    have : C' * v' ≤ 100000 * 40 := Nat.mul_le_mul hC' hv40
    omega
  have b3 : u * v' ≤ 368000000000000 := by
    have : u * v' ≤ 9200000000000 * 40 := Nat.mul_le_mul b1 hv40
    omega
  have b4 : u' * v ≤ 9200000000000 := by
    have : u' * v ≤ 4000000 * 2300000 := Nat.mul_le_mul b2 (by omega)
    omega
  have b5 : v * v' ≤ 92000000 := by
    have : v * v' ≤ 2300000 * 40 := Nat.mul_le_mul (by omega) hv40
    omega
  have b6 : 0 < v * v' := Nat.mul_pos hv hv'
  have hdd : v * v' ∣ (u * v' + u' * v) * D := by
    rw [Nat.add_mul]
    refine Nat.dvd_add ?_ ?_
    · rw [Nat.mul_assoc, Nat.mul_comm v v', ]
      exact Nat.dvd_trans (Nat.mul_dvd_mul_left v' hd) (Nat.dvd_mul_left _ _)
    · rw [Nat.mul_assoc]
      exact Nat.dvd_trans (Nat.mul_dvd_mul_left v hd') (Nat.dvd_mul_left _ _)
  have hcc : u * v' + u' * v ≤ (C + C') * (v * v') := by
    have k1 : u * v' ≤ C * v * v' := Nat.mul_le_mul_right _ hb
    have k2 : u' * v ≤ C' * v' * v := Nat.mul_le_mul_right _ hb'
    rw [Nat.add_mul, ← Nat.mul_assoc, Nat.mul_comm v v', ← Nat.mul_assoc]
    omega
  obtain ⟨u2, v2, h2, _, _⟩ := fr_FG b6 hdd hcc
  refine ⟨fr (u * v' + u' * v) (v * v'), u2, v2, h2, ?_, ?_⟩
  · have e1 : w64 ((u : Int) * (v' : Int)) = ((u * v' : Nat) : Int) := by rw [← Int.natCast_mul, w64_id (by omega) (by omega)]
    have e2 : w64 ((u' : Int) * (v : Int)) = ((u' * v : Nat) : Int) := by rw [← Int.natCast_mul, w64_id (by omega) (by omega)]
    have e3 : w64 ((v : Int) * (v' : Int)) = ((v * v' : Nat) : Int) := by rw [← Int.natCast_mul, w64_id (by omega) (by omega)]
    show i_lowest N (w64 (w64 ((u : Int) * v') + w64 ((u' : Int) * v))) (w64 ((v : Int) * v')) = _
    rw [e1, e2, e3, ← Int.natCast_add, w64_id (by omega) (by omega)]
    exact (low_ok N _ _ b6 (by omega) (by omega) (by omega)).1
  · have hg : 0 < Nat.gcd v v' := Nat.gcd_pos_of_pos_left v' hv
    have g2 := fun kj => (gcd_l1 kj v' v' v N (Nat.le_refl _) (by omega)).2
    obtain ⟨x, hx⟩ := Nat.gcd_dvd_left v v'
    obtain ⟨x', hx'⟩ := Nat.gcd_dvd_right v v'
    have q1 : v / Nat.gcd v v' = x := by conv => lhs; lhs; rw [hx]
                                         exact Nat.mul_div_cancel_left x hg
    have q2 : v' / Nat.gcd v v' = x' := by conv => lhs; lhs; rw [hx']
                                           exact Nat.mul_div_cancel_left x' hg
    have hxv : x ≤ v := by rw [← q1]; exact Nat.div_le_self _ _
    have hxv' : x' ≤ v' := by rw [← q2]; exact Nat.div_le_self _ _
    have hx0 : 0 < x := by rw [← q1]; exact Nat.div_pos (Nat.le_of_dvd hv (Nat.gcd_dvd_left v v')) hg
    have c1 : u * x' ≤ 368000000000000 := Nat.le_trans (Nat.mul_le_mul_left u hxv') b3
    have c2 : u' * x ≤ 9200000000000 := Nat.le_trans (Nat.mul_le_mul_left u' hxv) b4
    have c3 : x * v' ≤ 92000000 := Nat.le_trans (Nat.mul_le_mul_right v' hxv) b5
    have e1 : w64 ((u : Int) * (x' : Int)) = ((u * x' : Nat) : Int) := by rw [← Int.natCast_mul, w64_id (by omega) (by omega)]
    have e2 : w64 ((u' : Int) * (x : Int)) = ((u' * x : Nat) : Int) := by rw [← Int.natCast_mul, w64_id (by omega) (by omega)]
    have e3 : w64 ((x : Int) * (v' : Int)) = ((x * v' : Nat) : Int) := by rw [← Int.natCast_mul, w64_id (by omega) (by omega)]
    have e4 : w64 (((u * x' : Nat) : Int) + ((u' * x : Nat) : Int)) = ((u * x' + u' * x : Nat) : Int) := by rw [← Int.natCast_add, w64_id (by omega) (by omega)]
    have key : fr (u * v' + u' * v) (v * v') = fr (u * x' + u' * x) (x * v') := by
      have k1 : u * v' + u' * v = Nat.gcd v v' * (u * x' + u' * x) := by
        rw [Nat.mul_add, Nat.mul_left_comm (Nat.gcd v v') u x', Nat.mul_left_comm (Nat.gcd v v') u' x, ← hx', ← hx]
      have k2 : v * v' = Nat.gcd v v' * (x * v') := by
        rw [← Nat.mul_assoc, ← hx]
      rw [k1, k2, fr_mul _ _ _ hg]
    rw [key]
    unfold s_l22Add s_l00Gcd
    simp only [withK_n, g2, Option.bind_some, quo_nat _ _ hg (show v' < 9000000000000000000 by omega), quo_nat _ _ hg (show v < 9000000000000000000 by omega), q1, q2, e1, e2, e3, e4]
    rw [(low_ok N _ _ (Nat.mul_pos hx0 hv') (by omega) (by omega) (by omega)).2]
    rfl
/-! The product of the sizes of groups. -/
def prd : List (List Int) → Nat
  | [] => 1
  | g :: r => g.length * prd r
theorem cube : ∀ n : Nat, 1 ≤ n → n ^ 3 ≤ 3 ^ n
  | 1, _ => by decide
  | 2, _ => by decide
  | 3, _ => by decide
  | 4, _ => by decide
  | n + 5, _ => by
    have ih := cube (n + 4) (by omega)
    have e : 3 ^ (n + 5) = 3 * 3 ^ (n + 4) := by rw [Nat.pow_succ, Nat.mul_comm]
    have k : ∀ m : Nat, 4 ≤ m → (m + 1) ^ 3 ≤ 3 * m ^ 3 := fun m hm => by
      have e1 : (m + 1) ^ 3 = m * m * m + 3 * (m * m) + 3 * m + 1 := by
        simp only [Nat.pow_succ, Nat.pow_zero, Nat.one_mul, Nat.add_mul, Nat.mul_add, Nat.mul_one]; omega
      have e2 : m ^ 3 = m * m * m := by simp only [Nat.pow_succ, Nat.pow_zero, Nat.one_mul]
      have h1 : 4 * m ≤ m * m := Nat.mul_le_mul_right m hm
      have h2 : 4 * m * m ≤ m * m * m := Nat.mul_le_mul_right m h1
      rw [Nat.mul_assoc] at h2
      rw [e1, e2]; omega
    have := k (n + 4) (by omega)
    show (n + 4 + 1) ^ 3 ≤ _
    omega
theorem prd_cube : ∀ G : List (List Int), (∀ g ∈ G, g ≠ []) → prd G ^ 3 ≤ 3 ^ G.flatten.length ∧ 0 < prd G
  | [], _ => by decide
  | g :: r, h => by
    obtain ⟨i1, i2⟩ := prd_cube r fun x hx => h x (List.mem_cons_of_mem _ hx)
    have hg := List.length_pos_iff.2 (h g List.mem_cons_self)
    simp only [prd, List.flatten_cons, List.length_append]
    rw [Nat.mul_pow, Nat.pow_add]
    exact ⟨Nat.mul_le_mul (cube _ hg) i1, Nat.mul_pos hg i2⟩
theorem prd_le (G : List (List Int)) (h : ∀ g ∈ G, g ≠ []) (hl : G.flatten.length ≤ 40) : prd G ≤ 2300000 := by
  obtain ⟨h1, _⟩ := prd_cube G h
  refine Nat.le_of_not_lt fun hc => ?_
  have k1 : 2300001 ^ 3 ≤ prd G ^ 3 := Nat.pow_le_pow_left hc 3
  have k2 : 3 ^ G.flatten.length ≤ 3 ^ 40 := Nat.pow_le_pow_right (by decide) hl
  have k3 : (3 : Nat) ^ 40 = 12157665459056928801 := by decide
  have k4 : (2300001 : Nat) ^ 3 = 12167015870006900001 := by decide
  omega
theorem prd_dvd : ∀ (G : List (List Int)) (g : List Int), g ∈ G → g.length ∣ prd G
  | x :: r, g, h => by
    simp only [prd]
    rcases List.mem_cons.1 h with rfl | h
    · exact Nat.dvd_mul_right _ _
    · exact Nat.dvd_trans (prd_dvd r g h) (Nat.dvd_mul_left _ _)
end Go.Proofs.Ytikkolkickclhaa
