/-
  Plain lemmas on these functions. No conditions but those that each states.
-/
import Derived.Test.YtjnijhdhniemnaaFnArrangementsP3
namespace Go.Proofs.Ytjnijhdhniemnaa
set_option linter.unusedVariables false
set_option linter.unusedSimpArgs false
/-! The cost of an arrangement. -/
def BG (b : Basket) : Prop := 7 ≤ b.bars ∧ b.bars ≤ 16 ∧ 1 ≤ b.rise ∧ b.rise ≤ 6 ∧ 1 ≤ b.fall ∧ b.fall ≤ 6 ∧ 1 ≤ b.clear ∧ b.clear ≤ 4 ∧ 0 ≤ b.near ∧ b.near ≤ 5
def wt (b : Basket) (x y : Int) : Int := if x = y then b.rise + b.fall else b.clear + imax (b.near - (if x - y < 0 then 0 - (x - y) else x - y)) 0
/-- within the bars -/
def InB (b : Basket) (p : List Int) : Prop := ∀ x ∈ p, 0 ≤ x ∧ x < b.bars
theorem imax_ge (a b : Int) : a ≤ imax a b ∧ b ≤ imax a b ∧ (imax a b = a ∨ imax a b = b) := by unfold imax; split <;> omega
theorem wt_rng (b : Basket) (hb : BG b) (x y : Int) : 0 ≤ wt b x y ∧ wt b x y ≤ 12 ∧ (x ≠ y → b.clear ≤ wt b x y) := by
  obtain ⟨h1, h2, h3, h4, h5, h6, h7, h8, h9, h10⟩ := hb
  unfold wt
  have hm := imax_ge (b.near - (if x - y < 0 then 0 - (x - y) else x - y)) 0
  split
  · rename_i he
    exact ⟨by omega, by omega, fun g => absurd he g⟩
  · have : (if x - y < 0 then 0 - (x - y) else x - y) ≥ 0 := by split <;> omega
    generalize (if x - y < 0 then 0 - (x - y) else x - y) = q at *
    exact ⟨by omega, by omega, fun _ => by omega⟩
theorem waits_ok (b : Basket) (hb : BG b) (x y : Int) (hx : 0 ≤ x ∧ x < b.bars) (hy : 0 ≤ y ∧ y < b.bars) : i_Basket_waits b x y = some (wt b x y) := by
  have hw := wt_rng b hb x y
  obtain ⟨h1, h2, h3, h4, h5, h6, h7, h8, h9, h10⟩ := hb
  unfold i_Basket_waits i_absolute wt at *
  by_cases he : x = y
  · have hb : (x == y) = true := by simpa using he
    rw [hb, cond_true, if_pos he, w64_id (by omega) (by omega)]
  · have hb : (x == y) = false := by simpa using he
    rw [hb, cond_false, if_neg he, w64_id (x := x - y) (by omega) (by omega)]
    rw [if_neg he] at hw
    by_cases hn : x - y < 0
    · simp only [hn, decide_true, cond_true, if_true, Option.bind_some] at hw ⊢
      rw [w64_id (x := 0 - (x - y)) (by omega) (by omega), w64_id (x := b.near - (0 - (x - y))) (by omega) (by omega), w64_id (by omega) (by omega)]
    · simp only [hn, decide_false, cond_false, if_false, Option.bind_some] at hw ⊢
      rw [w64_id (x := b.near - (x - y)) (by omega) (by omega), w64_id (by omega) (by omega)]
/-- a row's cost -/
def cR (b : Basket) (x : Int) : List Int → List Int → Int
  | e :: es, y :: ys => e * wt b x y + cR b x es ys
  | _, _ => 0
/-- all rows -/
def cT (b : Basket) (p : List Int) : List (List Int) → List Int → Int
  | e :: P, x :: q => cR b x e p + cT b p P q
  | _, _ => 0
def RG (n : Nat) (e : List Int) : Prop := e.length = n ∧ ∀ x ∈ e, 0 ≤ x ∧ x ≤ 20
def PG (n : Nat) (P : List (List Int)) : Prop := P.length = n ∧ 2 ≤ n ∧ n ≤ 5 ∧ ∀ e ∈ P, RG n e
theorem mul_rng (e w : Int) (h1 : 0 ≤ e ∧ e ≤ 20) (h2 : 0 ≤ w ∧ w ≤ 12) : 0 ≤ e * w ∧ e * w ≤ 240 := by
  refine ⟨Int.mul_nonneg h1.1 h2.1, ?_⟩
  calc e * w ≤ 20 * w := Int.mul_le_mul_of_nonneg_right h1.2 h2.1
    _ ≤ 20 * 12 := Int.mul_le_mul_of_nonneg_left h2.2 (by omega)
    _ = 240 := rfl
theorem cR_rng (b : Basket) (hb : BG b) (x : Int) : ∀ (es ys : List Int), (∀ e ∈ es, 0 ≤ e ∧ e ≤ 20) → 0 ≤ cR b x es ys ∧ cR b x es ys ≤ 240 * es.length := by
  intro es
  induction es with
  | nil => intro ys _; simp [cR]
  | cons e es ih =>
    intro ys h
    match ys with
    | [] => simp [cR]; omega
    | y :: ys =>
      have h1 := ih ys fun q hq => h q (List.mem_cons_of_mem _ hq)
      have h2 := wt_rng b hb x y
      have h3 := mul_rng e (wt b x y) (h e List.mem_cons_self) ⟨h2.1, h2.2.1⟩
      simp only [cR, List.length_cons]
      omega
theorem cost_l2 (b : Basket) (hb : BG b) (n : Nat) (hn : n ≤ 5) (p : List Int) (hp : p.length = n) (hin : InB b p) (e : List Int) (he : RG n e) (i : Nat) (hi : i < n) (x : Int) (hx : p[i]? = some x) (kj : Int → Option Int) : ∀ (q j N : Nat) (s : Int), j + q = n → q < N → 0 ≤ s → s ≤ 1200 * i + 240 * j → i_Basket_cost_l2 kj b p (i : Int) e N s (j : Int) = kj (s + cR b x (e.drop j) (p.drop j)) := by
  have hxm := hin x (List.mem_of_getElem? hx)
  intro q
  induction q with
  | zero =>
    intro j N s hj hN h0 h1
    obtain ⟨N, rfl⟩ := pos_fuel hN
    have hz : ¬ (j : Int) < (e.length : Int) := by rw [he.1]; omega
    simp only [i_Basket_cost_l2, hz, decide_false, cond_false]
    rw [List.drop_eq_nil_of_le (by rw [he.1]; omega)]
    simp [cR]
  | succ q ih =>
    intro j N s hj hN h0 h1
    obtain ⟨N, rfl⟩ := pos_fuel hN
    have hlt : j < e.length := by rw [he.1]; omega
    have hltp : j < p.length := by omega
    have hz : (j : Int) < (e.length : Int) := by omega
    have hy := hin _ (List.getElem_mem hltp)
    have hw := wt_rng b hb x p[j]
    have hm := mul_rng e[j] (wt b x p[j]) (he.2 _ (List.getElem_mem hlt)) ⟨hw.1, hw.2.1⟩
    simp only [i_Basket_cost_l2, hz, decide_true, cond_true]
    rw [idx_lt e j hlt, Option.bind_some, idx_nat p i, hx, Option.bind_some, idx_lt p j hltp, Option.bind_some, waits_ok b hb x p[j] hxm hy, Option.bind_some, w64_nat j (by omega), w64_id (x := e[j] * wt b x p[j]) (by omega) (by omega), w64_id (x := s + e[j] * wt b x p[j]) (by omega) (by omega), List.drop_eq_getElem_cons hlt, List.drop_eq_getElem_cons hltp]
    simp only [cR]
    rw [ih (j + 1) N _ (by omega) (by omega) (by omega) (by omega), Int.add_assoc]
theorem cost_l1 (b : Basket) (hb : BG b) (n : Nat) (P : List (List Int)) (hP : PG n P) (p : List Int) (hp : p.length = n) (hin : InB b p) (kj : Int → Option Int) : ∀ (q i N : Nat) (s : Int), i + q = n → q + 20 < N → 0 ≤ s → s ≤ 1200 * i → i_Basket_cost_l1 kj b P p N s (i : Int) = kj (s + cT b p (P.drop i) (p.drop i)) ∧ 0 ≤ cT b p (P.drop i) (p.drop i) ∧ cT b p (P.drop i) (p.drop i) ≤ 1200 * q := by
  obtain ⟨h1, h2, h3, h4⟩ := hP
  intro q
  induction q with
  | zero =>
    intro i N s hi hN h0 hs
    obtain ⟨N, rfl⟩ := pos_fuel (show 0 < N by omega)
    have hz : ¬ (i : Int) < (P.length : Int) := by omega
    simp only [i_Basket_cost_l1, hz, decide_false, cond_false]
    rw [List.drop_eq_nil_of_le (by omega)]
    simp [cT]
  | succ q ih =>
    intro i N s hi hN h0 hs
    obtain ⟨N, rfl⟩ := pos_fuel (show 0 < N by omega)
    have hlt : i < P.length := by omega
    have hltp : i < p.length := by omega
    have hz : (i : Int) < (P.length : Int) := by omega
    have he := h4 _ (List.getElem_mem hlt)
    have hr := cR_rng b hb p[i] P[i] p he.2
    have hlen := he.1
    have e2 := cost_l2 b hb n h3 p hp hin P[i] he i (by omega) p[i] (List.getElem?_eq_getElem hltp) (fun sum15 => i_Basket_cost_l1 kj b P p N sum15 ((i + 1 : Nat) : Int)) n 0 N s (by omega) (by omega) h0 (by omega)
    rw [show ((0 : Nat) : Int) = 0 from rfl] at e2
    simp only [i_Basket_cost_l1, hz, decide_true, cond_true, withK_eq]
    rw [idx_lt P i hlt, Option.bind_some, w64_nat i (by omega), e2, List.drop_eq_getElem_cons hlt, List.drop_eq_getElem_cons hltp]
    simp only [List.drop_zero, cT]
    obtain ⟨e3, g1, g2⟩ := ih (i + 1) N (s + cR b p[i] P[i] p) (by omega) (by omega) (by omega) (by omega)
    rw [e3, Int.add_assoc]
    exact ⟨rfl, by omega, by omega⟩
/-- the cost -/
def tot (b : Basket) (P : List (List Int)) (p : List Int) : Int := cT b p P p
theorem cost_ok (b : Basket) (hb : BG b) (n : Nat) (P : List (List Int)) (hP : PG n P) (p : List Int) (hp : p.length = n) (hin : InB b p) (N : Nat) (hN : 50 < N) : i_Basket_cost N b P p = some (tot b P p) ∧ 0 ≤ tot b P p ∧ tot b P p ≤ 6000 := by
  have h3 := hP.2.2.1
  unfold i_Basket_cost tot
  simp only [withK_eq]
  obtain ⟨e, g1, g2⟩ := cost_l1 b hb n P hP p hp hin (fun s => some s) n 0 N 0 (by omega) (by omega) (by omega) (by omega)
  rw [show ((0 : Nat) : Int) = 0 from rfl] at e
  rw [e]
  simp only [List.drop_zero] at g1 g2 ⊢
  exact ⟨by simp, g1, by omega⟩
/-- mirrored -/
theorem wt_mir (b : Basket) (m x y : Int) : wt b (m - x) (m - y) = wt b x y := by
  unfold wt
  by_cases h : x = y
  · rw [if_pos h, if_pos (by omega)]
  · rw [if_neg h, if_neg (by omega)]
    congr 2
    split <;> split <;> omega
theorem cR_mir (b : Basket) (m x : Int) : ∀ (es ys : List Int), cR b (m - x) es (ys.map fun y => m - y) = cR b x es ys := by
  intro es
  induction es with
  | nil => intro ys; rfl
  | cons e es ih =>
    intro ys
    match ys with
    | [] => rfl
    | y :: ys => simp only [List.map_cons, cR, wt_mir, ih]
theorem cT_mir (b : Basket) (m : Int) (p : List Int) : ∀ (P : List (List Int)) (q : List Int), cT b (p.map fun y => m - y) P (q.map fun y => m - y) = cT b p P q := by
  intro P
  induction P with
  | nil => intro q; rfl
  | cons e P ih =>
    intro q
    match q with
    | [] => rfl
    | x :: q => simp only [List.map_cons, cT, cR_mir, ih]
theorem tot_mir (b : Basket) (P : List (List Int)) (m : Int) (p : List Int) : tot b P (p.map fun y => m - y) = tot b P p := cT_mir b m p P p
end Go.Proofs.Ytjnijhdhniemnaa
