/-
  Plain lemmas on these functions. No conditions but those that each states.
-/
import Derived.Test.YthpdpfagfkopnaaFnTopP3
namespace Go.Proofs.Ythpdpfagfkopnaa
set_option linter.unusedVariables false
set_option linter.unusedSimpArgs false
/-! The cost of an arrangement. -/
def BG (b : Basket) : Prop := 7 ≤ b.bars ∧ b.bars ≤ 16 ∧ 1 ≤ b.rise ∧ b.rise ≤ 6 ∧ 1 ≤ b.fall ∧ b.fall ≤ 6 ∧ 1 ≤ b.clear ∧ b.clear ≤ 4 ∧ 0 ≤ b.near ∧ b.near ≤ 5
def wt (b : Basket) (x y : Int) : Int := if x = y then b.rise + b.fall else b.clear + imax (b.near - (if x - y < 0 then 0 - (x - y) else x - y)) 0
/-- within the bars -/
def InB (b : Basket) (p : List Int) : Prop := ∀ x ∈ p, 0 ≤ x ∧ x < b.bars
theorem imax_ge (a b : Int) : a ≤ imax a b ∧ b ≤ imax a b ∧ (imax a b = a ∨ imax a b = b) := by unfold imax; split <;> omega
theorem wt_rng (b : Basket) (hb : BG b) (x y : Int) : 0 ≤ wt b x y ∧ wt b x y ≤ 12 ∧ (x ≠ y → b.clear ≤ wt b x y) := by
  obtain ⟨h1, h2, h3, h4, h5, h6, h7, h8, h9, h10⟩ := hb
  unfold wt
  have hm := imax_ge (b.near - (if x - y < 0 then 0 - (x - y) else x - y)) 0
  split
  · rename_i he
    exact ⟨by omega, by omega, fun g => absurd he g⟩
  · have : (if x - y < 0 then 0 - (x - y) else x - y) ≥ 0 := by split <;> omega
    generalize (if x - y < 0 then 0 - (x - y) else x - y) = q at *
    exact ⟨by omega, by omega, fun _ => by omega⟩
theorem waits_ok (b : Basket) (hb : BG b) (x y : Int) (hx : 0 ≤ x ∧ x < b.bars) (hy : 0 ≤ y ∧ y < b.bars) : i_Basket_waits b x y = some (wt b x y) := by
  have hw := wt_rng b hb x y
  obtain ⟨h1, h2, h3, h4, h5, h6, h7, h8, h9, h10⟩ := hb
  unfold i_Basket_waits i_absolute wt at *
  by_cases he : x = y
  · have hb : (x == y) = true := by simpa using he
    rw [hb, cond_true, if_pos he, w64_id (by omega) (by omega)]
  · have hb : (x == y) = false := by simpa using he
    rw [hb, cond_false, if_neg he, w64_id (x := x - y) (by omega) (by omega)]
    rw [if_neg he] at hw
    by_cases hn : x - y < 0
    · simp only [hn, decide_true, cond_true, if_true, Option.bind_some] at hw ⊢
      rw [w64_id (x := 0 - (x - y)) (by omega) (by omega), w64_id (x := b.near - (0 - (x - y))) (by omega) (by omega), w64_id (by omega) (by omega)]
    · simp only [hn, decide_false, cond_false, if_false, Option.bind_some] at hw ⊢
      rw [w64_id (x := b.near - (x - y)) (by omega) (by omega), w64_id (by omega) (by omega)]
/-- a row's cost -/
def cR (b : Basket) (x : Int) : List Int → List Int → Int
  | e :: es, y :: ys => e * wt b x y + cR b x es ys
  | _, _ => 0
/-- all rows -/
def cT (b : Basket) (p : List Int) : List (List Int) → List Int → Int
  | e :: P, x :: q => cR b x e p + cT b p P q
  | _, _ => 0
def RG (n : Nat) (e : List Int) : Prop := e.length = n ∧ ∀ x ∈ e, 0 ≤ x ∧ x ≤ 20
def PG (n : Nat) (P : List (List Int)) : Prop := P.length = n ∧ 2 ≤ n ∧ n ≤ 5 ∧ ∀ e ∈ P, RG n e
theorem mul_rng (e w : Int) (h1 : 0 ≤ e ∧ e ≤ 20) (h2 : 0 ≤ w ∧ w ≤ 12) : 0 ≤ e * w ∧ e * w ≤ 240 := by
  refine ⟨Int.mul_nonneg h1.1 h2.1, ?_⟩
  calc e * w ≤ 20 * w := Int.mul_le_mul_of_nonneg_right h1.2 h2.1
    _ ≤ 20 * 12 := Int.mul_le_mul_of_nonneg_left h2.2 (by omega)
    _ = 240 := rfl
theorem cR_rng (b : Basket) (hb : BG b) (x : Int) : ∀ (es ys : List Int), (∀ e ∈ es, 0 ≤ e ∧ e ≤ 20) → 0 ≤ cR b x es ys ∧ cR b x es ys ≤ 240 * es.length := by
  intro es
  induction es with
  | nil => intro ys _; simp [cR]
  | cons e es ih =>
    intro ys h
    match ys with
    | [] => simp [cR]; omega
    | y :: ys =>
      have h1 := ih ys fun q hq => h q (List.mem_cons_of_mem _ hq)
      have h2 := wt_rng b hb x y
      have h3 := mul_rng e (wt b x y) (h e List.mem_cons_self) ⟨h2.1, h2.2.1⟩
      simp only [cR, List.length_cons]
      omega
theorem cost_l2 (b : Basket) (hb : BG b) (n : Nat) (hn : n ≤ 5) (p : List Int) (hp : p.length = n) (hin : InB b p) (e : List Int) (he : RG n e) (i : Nat) (hi : i < n) (x : Int) (hx : p[i]? = some x) (kj : Int → Option Int) : ∀ (q j N : Nat) (s : Int), j + q = n → q < N → 0 ≤ s → s ≤ 1200 * i + 240 * j → i_Basket_cost_l2 kj b p (i : Int) e N s (j : Int) = kj (s + cR b x (e.drop j) (p.drop j)) := by
  have hxm := hin x (List.mem_of_getElem? hx)
  intro q
  induction q with
  | zero =>
    intro j N s hj hN h0 h1
    obtain ⟨N, rfl⟩ := pos_fuel hN
    have hz : ¬ (j : Int) < (e.length : Int) := by rw [he.1]; omega
    simp only [i_Basket_cost_l2, hz, decide_false, cond_false]
    rw [List.drop_eq_nil_of_le (by rw [he.1]; omega)]
    simp [cR]
  | succ q ih =>
    intro j N s hj hN h0 h1
    obtain ⟨N, rfl⟩ := pos_fuel hN
    have hlt : j < e.length := by rw [he.1]; omega
    have hltp : j < p.length := by omega
    have hz : (j : Int) < (e.length : Int) := by omega
    have hy := hin _ (List.getElem_mem hltp)
    have hw := wt_rng b hb x p[j]
    have hm := mul_rng e[j] (wt b x p[j]) (he.2 _ (List.getElem_mem hlt)) ⟨hw.1, hw.2.1⟩
    simp only [i_Basket_cost_l2, hz, decide_true, cond_true]
    rw [idx_lt e j hlt, Option.bind_some, idx_nat p i, hx, Option.bind_some, idx_lt p j hltp, Option.bind_some, waits_ok b hb x p[j] hxm hy, Option.bind_some, w64_nat j (by omega), w64_id (x := e[j] * wt b x p[j]) (by omega) (by omega), w64_id (x := s + e[j] * wt b x p[j]) (by omega) (by omega), List.drop_eq_getElem_cons hlt, List.drop_eq_getElem_cons hltp]
    simp only [cR]
    rw [ih (j + 1) N _ (by omega) (by omega) (by omega) (by omega), Int.add_assoc]
theorem cost_l1 (b : Basket) (hb : BG b) (n : Nat) (P : List (List Int)) (hP : PG n P) (p : List Int) (hp : p.length = n) (hin : InB b p) (kj : Int → Option Int) : ∀ (q i N : Nat) (s : Int), i + q = n → q + 20 < N → 0 ≤ s → s ≤ 1200 * i → i_Basket_cost_l1 kj b P p N s (i : Int) = kj (s + cT b p (P.drop i) (p.drop i)) ∧ 0 ≤ cT b p (P.drop i) (p.drop i) ∧ cT b p (P.drop i) (p.drop i) ≤ 1200 * q := by
  obtain ⟨h1, h2, h3, h4⟩ := hP
  intro q
  induction q with
  | zero =>
    intro i N s hi hN h0 hs
    obtain ⟨N, rfl⟩ := pos_fuel (show 0 < N by omega)
    have hz : ¬ (i : Int) < (P.length : Int) := by omega
    simp only [i_Basket_cost_l1, hz, decide_false, cond_false]
    rw [List.drop_eq_nil_of_le (by omega)]
    simp [cT]
  | succ q ih =>
    intro i N s hi hN h0 hs
    obtain ⟨N, rfl⟩ := pos_fuel (show 0 < N by omega)
    have hlt : i < P.length := by omega
    have hltp : i < p.length := by omega
    have hz : (i : Int) < (P.length : Int) := by omega
    have he := h4 _ (List.getElem_mem hlt)
    have hr := cR_rng b hb p[i] P[i] p he.2
    have hlen := he.1
    have e2 := cost_l2 b hb n h3 p hp hin P[i] he i (by omega) p[i] (List.getElem?_eq_getElem hltp) (fun sum15 => i_Basket_cost_l1 kj b P p N sum15 ((i + 1 : Nat) : Int)) n 0 N s (by omega) (by omega) h0 (by omega)
    rw [show ((0 : Nat) : Int) = 0 from rfl] at e2
    simp only [i_Basket_cost_l1, hz, decide_true, cond_true, withK_eq]
    rw [idx_lt P i hlt, Option.bind_some, w64_nat i (by omega), e2, List.drop_eq_getElem_cons hlt, List.drop_eq_getElem_cons hltp]
    simp only [List.drop_zero, cT]
    obtain ⟨e3, g1, g2⟩ := ih (i + 1) N (s + cR b p[i] P[i] p) (by omega) (by omega) (by omega) (by omega)
    rw [e3, Int.add_assoc]
    exact ⟨rfl, by omega, by omega⟩
/-- the cost -/
def tot (b : Basket) (P : List (List Int)) (p : List Int) : Int := cT b p P p
theorem cost_ok (b : Basket) (hb : BG b) (n : Nat) (P : List (List Int)) (hP : PG n P) (p : List Int) (hp : p.length = n) (hin : InB b p) (N : Nat) (hN : 50 < N) : i_Basket_cost N b P p = some (tot b P p) ∧ 0 ≤ tot b P p ∧ tot b P p ≤ 6000 := by
  have h3 := hP.2.2.1
  unfold i_Basket_cost tot
  simp only [withK_eq]
  obtain ⟨e, g1, g2⟩ := cost_l1 b hb n P hP p hp hin (fun s => some s) n 0 N 0 (by omega) (by omega) (by omega) (by omega)
  rw [show ((0 : Nat) : Int) = 0 from rfl] at e
  rw [e]
  simp only [List.drop_zero] at g1 g2 ⊢
  exact ⟨by simp, g1, by omega⟩
/-- mirrored -/
theorem wt_mir (b : Basket) (m x y : Int) : wt b (m - x) (m - y) = wt b x y := by
  unfold wt
  by_cases h : x = y
  · rw [if_pos h, if_pos (by omega)]
  · rw [if_neg h, if_neg (by omega)]
    congr 2
    split <;> split <;> omega
theorem cR_mir (b : Basket) (m x : Int) : ∀ (es ys : List Int), cR b (m - x) es (ys.map fun y => m - y) = cR b x es ys := by
  intro es
  induction es with
  | nil => intro ys; rfl
  | cons e es ih =>
    intro ys
    match ys with
    | [] => rfl
    | y :: ys => simp only [List.map_cons, cR, wt_mir, ih]
theorem cT_mir (b : Basket) (m : Int) (p : List Int) : ∀ (P : List (List Int)) (q : List Int), cT b (p.map fun y => m - y) P (q.map fun y => m - y) = cT b p P q := by
  intro P
  induction P with
  | nil => intro q; rfl
  | cons e P ih =>
    intro q
    match q with
    | [] => rfl
    | x :: q => simp only [List.map_cons, cT, cR_mir, ih]
theorem tot_mir (b : Basket) (P : List (List Int)) (m : Int) (p : List Int) : tot b P (p.map fun y => m - y) = tot b P p := cT_mir b m p P p
/-! Swaps, and the best of them. -/
def Df (p : List Int) : Prop := ∀ i j, ∀ hi : i < p.length, ∀ hj : j < p.length, p[i] = p[j] → i = j
def sw (p : List Int) (i k : Nat) : List Int := (p.set i (p[k]?.getD 0)).set k (p[i]?.getD 0)
theorem sw_len (p : List Int) (i k : Nat) : (sw p i k).length = p.length := by simp [sw]
theorem sw_get (p : List Int) (i k j : Nat) (hi : i < p.length) (hk : k < p.length) (hj : j < p.length) : (sw p i k)[j]'(by rw [sw_len]; exact hj) = if j = k then p[i] else if j = i then p[k] else p[j] := by
  have h : (sw p i k)[j]? = some (if j = k then p[i] else if j = i then p[k] else p[j]) := by
    unfold sw
    rw [List.getElem?_eq_getElem hi, List.getElem?_eq_getElem hk]
    simp only [Option.getD_some, List.getElem?_set, List.length_set]
    by_cases h1 : k = j
    · subst h1; simp [hk]
    · by_cases h2 : i = j
      · subst h2; simp [h1, Ne.symm h1, hi]
      · simp [h1, h2, Ne.symm h1, Ne.symm h2, hj]
  rw [List.getElem?_eq_getElem (by rw [sw_len]; exact hj)] at h
  exact Option.some.inj h
/-- a good arrangement of n -/
def AG (b : Basket) (n : Nat) (p : List Int) : Prop := p.length = n ∧ InB b p ∧ Df p
theorem sw_ag {b : Basket} {n : Nat} {p : List Int} (h : AG b n p) (i k : Nat) (hi : i < n) (hk : k < n) : AG b n (sw p i k) := by
  obtain ⟨h1, h2, h3⟩ := h
  have gi : i < p.length := by omega
  have gk : k < p.length := by omega
  refine ⟨by rw [sw_len]; exact h1, fun x hx => ?_, fun u v hu hv e => ?_⟩
  · obtain ⟨j, hj, rfl⟩ := List.getElem_of_mem hx
    rw [sw_len] at hj
    rw [sw_get p i k j gi gk hj]
    split
    · exact h2 _ (List.getElem_mem gi)
    · split
      · exact h2 _ (List.getElem_mem gk)
      · exact h2 _ (List.getElem_mem hj)
  · rw [sw_len] at hu hv
    rw [sw_get p i k u gi gk hu, sw_get p i k v gi gk hv] at e
    by_cases a1 : u = k <;> by_cases a2 : u = i <;> by_cases b1 : v = k <;> by_cases b2 : v = i <;> simp only [a1, a2, b1, b2, if_true, if_false] at e <;> first | omega | (have := h3 _ _ _ _ e; omega) | skip
    all_goals
      (repeat' split at e) <;> (first | omega | (have := h3 _ _ _ _ e; omega))
theorem sw_sw (p : List Int) (i k : Nat) (hi : i < p.length) (hk : k < p.length) : sw (sw p i k) i k = p := by
  refine List.ext_getElem (by rw [sw_len, sw_len]) fun j h1 h2 => ?_
  have hj : j < p.length := h2
  rw [sw_get (sw p i k) i k j (by rw [sw_len]; exact hi) (by rw [sw_len]; exact hk) (by rw [sw_len]; exact hj), sw_get p i k i hi hk hi, sw_get p i k k hi hk hk, sw_get p i k j hi hk hj]
  by_cases a : j = k
  · subst a
    by_cases c : i = j
    · subst c; simp
    · simp [c]
  · by_cases c : j = i
    · subst c; simp [a]
    · simp [a, c]
/-- the state of the search -/
def BS (b : Basket) (P : List (List Int)) (p : List Int) (c0 least first second : Int) (found : Bool) : Prop :=
  (found = false ∧ least = c0) ∨ (found = true ∧ ∃ i k : Nat, first = i ∧ second = k ∧ i < k ∧ k < p.length ∧ least = tot b P (sw p i k) ∧ least < c0)
/-! Validity, the bound, the mirror, the draws, and the law. -/
theorem vb_ok (b : Basket) (hb : BG b) : i_ValidBasket b = some true := by
  obtain ⟨h1, h2, h3, h4, h5, h6, h7, h8, h9, h10⟩ := hb
  unfold i_ValidBasket i_between
  have e1 : (decide (b.bars ≥ 2) && decide (b.bars ≤ 60)) = true := by
    have a : b.bars ≥ 2 := by omega
    have c : b.bars ≤ 60 := by omega
    simp [a, c]
  have e2 : (decide (b.rise ≥ 1) && decide (b.rise ≤ 100)) = true := by
    have a : b.rise ≥ 1 := by omega
    have c : b.rise ≤ 100 := by omega
    simp [a, c]
  have e3 : (decide (b.fall ≥ 1) && decide (b.fall ≤ 100)) = true := by
    have a : b.fall ≥ 1 := by omega
    have c : b.fall ≤ 100 := by omega
    simp [a, c]
  have e4 : (decide (b.clear ≥ 1) && decide (b.clear ≤ 100)) = true := by
    have a : b.clear ≥ 1 := by omega
    have c : b.clear ≤ 100 := by omega
    simp [a, c]
  have e5 : (decide (b.near ≥ 0) && decide (b.near ≤ 100)) = true := by
    have a : b.near ≥ 0 := by omega
    have c : b.near ≤ 100 := by omega
    simp [a, c]
  simp only [andO_some, Option.bind_some, e1, e2, e3, e4, e5, Bool.and_self]
theorem vp_l2 (kj : Option Bool) (e : List Int) (he : ∀ x ∈ e, 0 ≤ x ∧ x ≤ 20) (hl : e.length ≤ 100) : ∀ (q i N : Nat), i + q = e.length → q < N → i_ValidPairs_l2 kj e N (i : Int) = kj := by
  intro q
  induction q with
  | zero =>
    intro i N hi hN
    obtain ⟨N, rfl⟩ := pos_fuel hN
    have hz : ¬ (i : Int) < (e.length : Int) := by omega
    simp only [i_ValidPairs_l2, hz, decide_false, cond_false]
  | succ q ih =>
    intro i N hi hN
    obtain ⟨N, rfl⟩ := pos_fuel hN
    have hz : (i : Int) < (e.length : Int) := by omega
    have hlt : i < e.length := by omega
    have g := he _ (List.getElem_mem hlt)
    have hb : (decide (e[i] ≥ 0) && decide (e[i] ≤ 1000)) = true := by
      have c : e[i] ≤ 1000 := by omega
      simp [g.1, c]
    simp only [i_ValidPairs_l2, hz, decide_true, cond_true, i_between]
    rw [idx_lt e i hlt, w64_nat i (by omega)]
    simp only [Option.bind_some, andO_some, hb, Bool.not_true, cond_false]
    exact ih (i + 1) N (by omega) (by omega)
theorem vp_l1 (n : Nat) (P : List (List Int)) (hP : PG n P) (kj : Option Bool) : ∀ (q i N : Nat), i + q = n → q + 20 < N → i_ValidPairs_l1 kj P N (i : Int) = kj := by
  obtain ⟨h1, h2, h3, h4⟩ := hP
  intro q
  induction q with
  | zero =>
    intro i N hi hN
    obtain ⟨N, rfl⟩ := pos_fuel (show 0 < N by omega)
    have hz : ¬ (i : Int) < (P.length : Int) := by omega
    simp only [i_ValidPairs_l1, hz, decide_false, cond_false]
  | succ q ih =>
    intro i N hi hN
    obtain ⟨N, rfl⟩ := pos_fuel (show 0 < N by omega)
    have hz : (i : Int) < (P.length : Int) := by omega
    have hlt : i < P.length := by omega
    have he := h4 _ (List.getElem_mem hlt)
    have hl := he.1
    have hne : ((P[i].length : Int) != (P.length : Int)) = false := by simp; omega
    have e2 := vp_l2 (i_ValidPairs_l1 kj P N ((i + 1 : Nat) : Int)) P[i] he.2 (by omega) P[i].length 0 N (by omega) (by omega)
    rw [show ((0 : Nat) : Int) = 0 from rfl] at e2
    simp only [i_ValidPairs_l1, hz, decide_true, cond_true, withK_eq]
    rw [idx_lt P i hlt, Option.bind_some, w64_nat i (by omega), hne, cond_false, e2]
    exact ih (i + 1) N (by omega) (by omega)
theorem vp_ok (n : Nat) (P : List (List Int)) (hP : PG n P) (N : Nat) (hN : 100 < N) : i_ValidPairs N P = some true := by
  have h1 := hP.1
  have h2 := hP.2.1
  have h3 := hP.2.2.1
  unfold i_ValidPairs i_between
  have hb : (decide ((P.length : Int) ≥ 2) && decide ((P.length : Int) ≤ 7)) = true := by
    have a : (P.length : Int) ≥ 2 := by omega
    have c : (P.length : Int) ≤ 7 := by omega
    simp [a, c]
  simp only [andO_some, Option.bind_some, hb, Bool.not_true, cond_false, withK_eq]
  have e := vp_l1 n P hP (some true) n 0 N (by omega) (by omega)
  exact e
theorem mgetI_set (l : List (Int × Bool)) (k s : Int) (v : Bool) : mgetI (msetI l k v) s = if s == k then v else mgetI l s := by
  induction l with
  | nil => cases h : s == k <;> simp [msetI, mgetI, h]
  | cons x r ih =>
    obtain ⟨a, b⟩ := x
    simp only [msetI]
    cases hk : k == a
    · simp only [cond_false, mgetI, ih]
      cases hs : s == a
      · simp
      · have hsk : (s == k) = false := by
          rw [beq_iff_eq] at hs
          rw [beq_eq_false_iff_ne] at hk ⊢
          exact fun e => hk (e ▸ hs)
        simp [hsk]
    · have e : k = a := by simpa using hk
      subst e
      simp only [cond_true, mgetI]
      cases hs : s == k <;> simp
theorem ar_l1 (b : Basket) (hb : BG b) (n : Nat) (hn : n ≤ 7) (p : List Int) (hp : AG b n p) : ∀ (q i N : Nat) (mp : List (Int × Bool)), i + q = n → q < N → (∀ s, mgetI mp s = true → ∃ j, ∃ hj : j < p.length, j < i ∧ p[j] = s) → i_Basket_arranges_l1 (some true) b p N mp (i : Int) = some true := by
  obtain ⟨h1, h2, h3⟩ := hp
  have b1 := hb.1
  have b2 := hb.2.1
  intro q
  induction q with
  | zero =>
    intro i N mp hi hN hm
    obtain ⟨N, rfl⟩ := pos_fuel hN
    have hz : ¬ (i : Int) < (p.length : Int) := by omega
    simp only [i_Basket_arranges_l1, hz, decide_false, cond_false]
  | succ q ih =>
    intro i N mp hi hN hm
    obtain ⟨N, rfl⟩ := pos_fuel hN
    have hz : (i : Int) < (p.length : Int) := by omega
    have hlt : i < p.length := by omega
    have g := h2 _ (List.getElem_mem hlt)
    have hbb : (decide (p[i] ≥ 0) && decide (p[i] ≤ b.bars - 1)) = true := by
      have c : p[i] ≤ b.bars - 1 := by omega
      simp [g.1, c]
    have hmg : mgetI mp p[i] = false := by
      cases hg : mgetI mp p[i]
      · rfl
      · obtain ⟨j, hj, hji, e⟩ := hm _ hg
        have := h3 j i hj hlt e
        omega
    simp only [i_Basket_arranges_l1, hz, decide_true, cond_true, i_Basket_hasBar, i_between]
    rw [idx_lt p i hlt, w64_id (x := b.bars - 1) (by omega) (by omega), w64_nat i (by omega)]
    simp only [Option.bind_some, andO_some, hbb, Bool.not_true, orO_false, hmg, cond_false]
    refine ih (i + 1) N _ (by omega) (by omega) fun s hs => ?_
    rw [mgetI_set] at hs
    cases he : s == p[i]
    · rw [he] at hs
      obtain ⟨j, hj, hji, e⟩ := hm s (by simpa using hs)
      exact ⟨j, hj, by omega, e⟩
    · exact ⟨i, hlt, by omega, (eq_of_beq he).symm⟩
theorem ar_ok (b : Basket) (hb : BG b) (n : Nat) (hn : n ≤ 7) (p : List Int) (hp : AG b n p) (lo hi : Int) (h1 : lo ≤ n) (h2 : (n : Int) ≤ hi) (N : Nat) (hN : 50 < N) : i_Basket_arranges N b p lo hi = some true := by
  have hl := hp.1
  unfold i_Basket_arranges
  have e1 : decide ((p.length : Int) < lo) = false := decide_eq_false (by omega)
  have e2 : decide ((p.length : Int) > hi) = false := decide_eq_false (by omega)
  simp only [e1, e2, orO_some, Bool.or_self, Option.bind_some, cond_false, withK_eq]
  exact ar_l1 b hb n hn p hp n 0 N [] (by omega) (by omega) fun s hs => by cases hs
theorem code_ok (b : Basket) (hb : BG b) (n : Nat) (P : List (List Int)) (hP : PG n P) (p : List Int) (hp : AG b n p) (N : Nat) (hN : 200 < N) : i_arrangeCode N b P p = some 0 := by
  have h1 := hP.1
  have h3 := hP.2.2.1
  unfold i_arrangeCode
  rw [vb_ok b hb, Option.bind_some, vp_ok n P hP N (by omega), ar_ok b hb n (by omega) p hp (P.length : Int) (P.length : Int) (by omega) (by omega) N (by omega)]
  rfl
theorem ac_ok (b : Basket) (hb : BG b) (n : Nat) (P : List (List Int)) (hP : PG n P) (p : List Int) (hp : AG b n p) (N : Nat) (hN : 200 < N) : i_ArrangeCost N b P p = some (tot b P p, 0) := by
  unfold i_ArrangeCost
  rw [code_ok b hb n P hP p hp N hN, Option.bind_some, (cost_ok b hb n P hP p hp.1 hp.2.1 N (by omega)).1]
  rfl
/-! the bound -/
def bR (b : Basket) (i : Nat) : Nat → List Int → Int
  | _, [] => 0
  | j, e :: es => e * (if i = j then b.rise + b.fall else b.clear) + bR b i (j + 1) es
def bT (b : Basket) : Nat → List (List Int) → Int
  | _, [] => 0
  | i, e :: P => bR b i 0 e + bT b (i + 1) P
theorem bR_le (b : Basket) (hb : BG b) (p : List Int) (hd : Df p) (i : Nat) (hi : i < p.length) : ∀ (es : List Int) (j : Nat), (∀ x ∈ es, 0 ≤ x ∧ x ≤ 20) → j + es.length ≤ p.length → 0 ≤ bR b i j es ∧ bR b i j es ≤ cR b p[i] es (p.drop j) := by
  intro es
  induction es with
  | nil => intro j _ _; simp [bR, cR]
  | cons e es ih =>
    intro j h hl
    simp only [List.length_cons] at hl
    have hj : j < p.length := by omega
    obtain ⟨g1, g2⟩ := ih (j + 1) (fun x hx => h x (List.mem_cons_of_mem _ hx)) (by omega)
    have he := h e List.mem_cons_self
    have hw := wt_rng b hb p[i] p[j]
    rw [List.drop_eq_getElem_cons hj]
    simp only [bR, cR]
    have b3 := hb.2.2.1
    have b5 := hb.2.2.2.2.1
    have b7 := hb.2.2.2.2.2.2.1
    by_cases hij : i = j
    · subst hij
      rw [if_pos rfl]
      have : wt b p[i] p[i] = b.rise + b.fall := by unfold wt; rw [if_pos rfl]
      rw [this]
      have := Int.mul_nonneg he.1 (show 0 ≤ b.rise + b.fall by omega)
      omega
    · rw [if_neg hij]
      have hne : p[i] ≠ p[j] := fun e => hij (hd i j hi hj e)
      have h4 := Int.mul_le_mul_of_nonneg_left (hw.2.2 hne) he.1
      have := Int.mul_nonneg he.1 (show 0 ≤ b.clear by omega)
      omega
theorem bT_le (b : Basket) (hb : BG b) (n : Nat) (p : List Int) (hp : p.length = n) (hd : Df p) : ∀ (P : List (List Int)) (i : Nat), (∀ e ∈ P, RG n e) → i + P.length ≤ n → 0 ≤ bT b i P ∧ bT b i P ≤ cT b p P (p.drop i) := by
  intro P
  induction P with
  | nil => intro i _ _; simp [bT, cT]
  | cons e P ih =>
    intro i h hl
    simp only [List.length_cons] at hl
    have hi : i < p.length := by omega
    obtain ⟨g1, g2⟩ := ih (i + 1) (fun x hx => h x (List.mem_cons_of_mem _ hx)) (by omega)
    have he := h e List.mem_cons_self
    obtain ⟨g3, g4⟩ := bR_le b hb p hd i hi e 0 he.2 (by rw [he.1]; omega)
    rw [List.drop_zero] at g4
    rw [List.drop_eq_getElem_cons hi]
    simp only [bT, cT]
    omega
theorem bR_up (b : Basket) (hb : BG b) (i : Nat) : ∀ (es : List Int) (j : Nat), (∀ x ∈ es, 0 ≤ x ∧ x ≤ 20) → 0 ≤ bR b i j es ∧ bR b i j es ≤ 240 * es.length := by
  intro es
  induction es with
  | nil => intro j _; simp [bR]
  | cons e es ih =>
    intro j h
    obtain ⟨g1, g2⟩ := ih (j + 1) (fun x hx => h x (List.mem_cons_of_mem _ hx))
    obtain ⟨a1, a2, a3, a4, a5, a6, a7, a8, _⟩ := hb
    have hm := mul_rng e (if i = j then b.rise + b.fall else b.clear) (h e List.mem_cons_self) (by split <;> omega)
    simp only [bR, List.length_cons]
    omega
/-! the mirror -/
/-! draws -/
theorem basket_ok (code : List UInt8) : ∃ b, s_A2Basket code = some b ∧ BG b := by
  unfold s_A2Basket s_l03Draw
  rw [fromA]
  simp only [Option.bind_some]
  have main : ∃ v, ((s_l00Src_pick (L00Src.mk code 0 0) 10).bind fun r6 =>
    (s_l00Src_pick (L00Src.mk code r6.2.at_ r6.2.seed) 6).bind fun r9 =>
    (s_l00Src_pick (L00Src.mk code r9.2.at_ r9.2.seed) 6).bind fun r11 =>
    (s_l00Src_pick (L00Src.mk code r11.2.at_ r11.2.seed) 4).bind fun r13 =>
    (s_l00Src_pick (L00Src.mk code r13.2.at_ r13.2.seed) 6).bind fun r15 =>
    some ((Basket.mk (w64 (2 + r6.1)) (w64 (1 + r9.1)) (w64 (1 + r11.1)) (w64 (1 + r13.1)) r15.1), (L00Src.mk code r15.2.at_ r15.2.seed))) = some v ∧ (2 ≤ v.1.bars ∧ v.1.bars ≤ 11 ∧ 1 ≤ v.1.rise ∧ v.1.rise ≤ 6 ∧ 1 ≤ v.1.fall ∧ v.1.fall ≤ 6 ∧ 1 ≤ v.1.clear ∧ v.1.clear ≤ 4 ∧ 0 ≤ v.1.near ∧ v.1.near ≤ 5) := by
    refine bindE (pickA (code := code) (hi := 0) 10 ⟨rfl, by show (0 : Int) ≤ 0; omega, by show (0 : Int) ≤ 0; omega⟩ (by omega)) fun v1 g1 => ?_
    refine bindE (pickA (code := code) (hi := 2) 6 ⟨rfl, g1.1.2⟩ (by omega)) fun v2 g2 => ?_
    refine bindE (pickA (code := code) (hi := 4) 6 ⟨rfl, g2.1.2⟩ (by omega)) fun v3 g3 => ?_
    refine bindE (pickA (code := code) (hi := 6) 4 ⟨rfl, g3.1.2⟩ (by omega)) fun v4 g4 => ?_
    refine bindE (pickA (code := code) (hi := 8) 6 ⟨rfl, g4.1.2⟩ (by omega)) fun v5 g5 => ?_
    have a1 := g1.2.1; have c1 := g1.2.2 (by omega)
    have a2 := g2.2.1; have c2 := g2.2.2 (by omega)
    have a3 := g3.2.1; have c3 := g3.2.2 (by omega)
    have a4 := g4.2.1; have c4 := g4.2.2 (by omega)
    have a5 := g5.2.1; have c5 := g5.2.2 (by omega)
    rw [w64_id (x := 2 + v1.1) (by omega) (by omega), w64_id (x := 1 + v2.1) (by omega) (by omega), w64_id (x := 1 + v3.1) (by omega) (by omega), w64_id (x := 1 + v4.1) (by omega) (by omega)]
    exact ⟨_, rfl, by show 2 ≤ 2 + v1.1; omega, by show 2 + v1.1 ≤ 11; omega, by show 1 ≤ 1 + v2.1; omega, by show 1 + v2.1 ≤ 6; omega, by show 1 ≤ 1 + v3.1; omega, by show 1 + v3.1 ≤ 6; omega, by show 1 ≤ 1 + v4.1; omega, by show 1 + v4.1 ≤ 4; omega, a5, by show v5.1 ≤ 5; omega⟩
  obtain ⟨v, e, h⟩ := main
  rw [e, Option.bind_some, w64_id (by omega) (by omega)]
  exact ⟨_, rfl, by show 7 ≤ v.1.bars + 5; omega, by show v.1.bars + 5 ≤ 16; omega, h.2.2⟩
theorem pr_l2 {code : List UInt8} (n : Nat) (hn : n ≤ 5) (kj : List Int → Int → Int → Option (List (List Int) × L00Src)) (Q : List (List Int) × L00Src → Prop) (c : L00Src) (hc : c.code = code) : ∀ (q k N : Nat) (l : List Int) (a sd hi : Int), k + q = n → q < N → 0 ≤ a → a ≤ hi → hi + 4 * q ≤ 1000000 → l.length = k → (∀ x ∈ l, 0 ≤ x ∧ x ≤ 20) → (∀ l' a' sd', RG n l' → 0 ≤ a' → a' ≤ hi + 4 * q → ∃ r, kj l' a' sd' = some r ∧ Q r) → ∃ r, s_l05Draw_l2 kj c (n : Int) N l a sd (k : Int) = some r ∧ Q r := by
  intro q
  induction q with
  | zero =>
    intro k N l a sd hi hk hN h0 h1 h2 h3 h4 h5
    obtain ⟨N, rfl⟩ := pos_fuel hN
    have hz : ¬ (k : Int) < (n : Int) := by omega
    simp only [s_l05Draw_l2, hz, decide_false, cond_false]
    exact h5 l a sd ⟨by omega, h4⟩ h0 (by omega)
  | succ q ih =>
    intro k N l a sd hi hk hN h0 h1 h2 h3 h4 h5
    obtain ⟨N, rfl⟩ := pos_fuel hN
    have hz : (k : Int) < (n : Int) := by omega
    simp only [s_l05Draw_l2, hz, decide_true, cond_true, withK_eq, w64_nat k (show k < 9223372036854775807 by omega)]
    refine bindE (oneA (code := code) (hi := hi) 2 ⟨hc, h0, h1⟩ (by omega)) fun v1 g1 => ?_
    have key : ∀ (x a' sd' : Int), 0 ≤ x ∧ x ≤ 20 → 0 ≤ a' → a' ≤ hi + 4 → ∃ r, ((app l [x]).bind fun l51 => s_l05Draw_l2 kj c (n : Int) N l51 a' sd' ((k + 1 : Nat) : Int)) = some r ∧ Q r := fun x a' sd' hx ha hb => by
      refine appE (by unfold LIM; simp; omega) ?_
      refine ih (k + 1) N _ a' sd' (hi + 4) (by omega) (by omega) ha hb (by omega) (by simp; omega) (fun y hy => ?_) fun l' a2 sd2 q1 q2 q3 => h5 l' a2 sd2 q1 q2 (by omega)
      rcases List.mem_append.1 hy with hy | hy
      · exact h4 y hy
      · rw [List.mem_singleton.1 hy]; exact hx
    have g12 := g1.2.2
    refine condE (fun _ => key 0 _ _ (by omega) g1.2.1 (by omega)) fun _ => ?_
    refine bindE (pickA (code := code) (hi := hi + 2) 20 ⟨hc, g1.2⟩ (by omega)) fun v2 g2 => ?_
    have a2 := g2.2.1
    have c2 := g2.2.2 (by omega)
    have d2 := g2.1.2.2
    exact key v2.1 _ _ ⟨a2, by omega⟩ g2.1.2.1 (by omega)
theorem pr_l1 {code : List UInt8} (n : Nat) (hn : n ≤ 5) (kj : List (List Int) → Int → Int → Option (List (List Int) × L00Src)) (Q : List (List Int) × L00Src → Prop) (c : L00Src) (hc : c.code = code) (hk : ∀ P a sd, P.length = n → (∀ e ∈ P, RG n e) → ∃ r, kj P a sd = some r ∧ Q r) : ∀ (q i N : Nat) (P : List (List Int)) (a sd hi : Int), i + q = n → q + 20 < N → 0 ≤ a → a ≤ hi → hi + 40 * q ≤ 900000 → P.length = i → (∀ e ∈ P, RG n e) → ∃ r, s_l05Draw_l1 kj c (n : Int) N P a sd (i : Int) = some r ∧ Q r := by
  intro q
  induction q with
  | zero =>
    intro i N P a sd hi hi' hN h0 h1 h2 h3 h4
    obtain ⟨N, rfl⟩ := pos_fuel (show 0 < N by omega)
    have hz : ¬ (i : Int) < (n : Int) := by omega
    simp only [s_l05Draw_l1, hz, decide_false, cond_false]
    exact hk P a sd (by omega) h4
  | succ q ih =>
    intro i N P a sd hi hi' hN h0 h1 h2 h3 h4
    obtain ⟨N, rfl⟩ := pos_fuel (show 0 < N by omega)
    have hz : (i : Int) < (n : Int) := by omega
    simp only [s_l05Draw_l1, hz, decide_true, cond_true, withK_eq, w64_nat i (show i < 9223372036854775807 by omega)]
    refine pr_l2 (code := code) n hn _ Q c hc n 0 N [] a sd hi (by omega) (by omega) h0 h1 (by omega) rfl (fun x hx => by cases hx) fun l' a' sd' q1 q2 q3 => ?_
    refine appE (by unfold LIM; simp; omega) ?_
    refine ih (i + 1) N _ a' sd' (hi + 40) (by omega) (by omega) q2 (by omega) (by omega) (by simp; omega) fun e he => ?_
    rcases List.mem_append.1 he with he | he
    · exact h4 e he
    · rw [List.mem_singleton.1 he]; exact q1
theorem pairs_ok (code : List UInt8) (N : Nat) (hN : 100 < N) : ∃ n P, s_A2Pairs N code = some P ∧ PG n P := by
  unfold s_A2Pairs s_l05Draw
  rw [fromA]
  simp only [Option.bind_some, withK_eq]
  obtain ⟨v, e, g1, g2, g3⟩ := pickA (code := code) (hi := 0) (s := L00Src.mk code (L00Src.mk code 0 0).at_ (L00Src.mk code 0 0).seed) 4 ⟨rfl, by show (0 : Int) ≤ 0; omega, by show (0 : Int) ≤ 0; omega⟩ (by omega)
  rw [e, Option.bind_some]
  have h4 := g3 (by omega)
  have ew : w64 (2 + v.1) = ((2 + v.1).toNat : Int) := by rw [w64_id (by omega) (by omega)]; omega
  rw [ew]
  obtain ⟨r, e2, h⟩ := pr_l1 (code := code) (2 + v.1).toNat (by omega) (fun (l7 : List (List Int)) (x10 : Int) (x11 : Int) => some (l7, (L00Src.mk code x10 x11))) (fun r => PG (2 + v.1).toNat r.1) (L00Src.mk code v.2.at_ v.2.seed) rfl (fun P a sd h1 h2 => ⟨_, rfl, h1, by omega, by omega, h2⟩) (2 + v.1).toNat 0 N [] v.2.at_ v.2.seed 2 (by omega) (by omega) g1.2.1 g1.2.2 (by omega) rfl (fun e he => by cases he)
  rw [show ((0 : Nat) : Int) = 0 from rfl] at e2
  rw [e2]
  exact ⟨_, _, rfl, h⟩
/-! Drawn places, and the law. -/
theorem df_of (l : List Int) (h : l.Nodup) : Df l := fun i j hi hj e => by
  have hp := List.pairwise_iff_getElem.1 h
  rcases Nat.lt_trichotomy i j with g | g | g
  · exact absurd e (hp i j hi hj g)
  · exact g
  · exact absurd e.symm (hp j i hj hi g)
theorem pl_l1 (code : List UInt8) (n : Nat) (hn : n ≤ 5) (kj : List Int → Option (List Int)) (hk : ∀ l, kj l = some l) : ∀ (q i N : Nat) (l : List Int) (a sd hi : Int), i + q = n → q < N → 0 ≤ a → a ≤ hi → hi + 2 * q ≤ 1000000 → l.length = i → l.Nodup → (∀ x ∈ l, 0 ≤ x ∧ x < i) → ∃ l', s_A2Places_l1 kj code (n : Int) N l a sd (i : Int) = some l' ∧ l'.length = n ∧ l'.Nodup ∧ ∀ x ∈ l', 0 ≤ x ∧ x < n := by
  intro q
  induction q with
  | zero =>
    intro i N l a sd hi hi' hN h0 h1 h2 h3 h4 h5
    obtain ⟨N, rfl⟩ := pos_fuel hN
    have hz : ¬ (i : Int) < (n : Int) := by omega
    simp only [s_A2Places_l1, hz, decide_false, cond_false, hk]
    have : i = n := by omega
    subst this
    exact ⟨l, rfl, h3, h4, h5⟩
  | succ q ih =>
    intro i N l a sd hi hi' hN h0 h1 h2 h3 h4 h5
    obtain ⟨N, rfl⟩ := pos_fuel hN
    have hz : (i : Int) < (n : Int) := by omega
    simp only [s_A2Places_l1, hz, decide_true, cond_true]
    rw [w64_id (x := (l.length : Int) + 1) (by omega) (by omega)]
    obtain ⟨v, e, g1, g2, g3⟩ := pickA (code := code) (hi := hi) (s := L00Src.mk code a sd) ((l.length : Int) + 1) ⟨rfl, h0, h1⟩ (by omega)
    have g4 := g3 (by omega)
    obtain ⟨r, hr⟩ := Int.eq_ofNat_of_zero_le g2
    have hrl : r ≤ l.length := by omega
    have hs1 : sub l 0 (r : Int) = some (l.take r) := by rw [sub_some l 0 r (by omega) (by omega) (by omega)]; simp
    have hs2 : sub l (r : Int) (l.length : Int) = some (l.drop r) := by
      rw [sub_some l r _ (by omega) (by omega) (by omega)]
      have e1 : ((r : Int)).toNat = r := by omega
      have e2 : ((l.length : Int)).toNat = l.length := by omega
      rw [e1, e2, List.take_of_length_le (by rw [List.length_drop]; omega)]
    have hlt : (l.take r).length + (l.drop r).length = l.length := by rw [List.length_take, List.length_drop]; omega
    rw [e, Option.bind_some, hr, hs1, Option.bind_some]
    unfold s_l00Own
    rw [app_some _ _ (by unfold LIM; simp; omega), Option.bind_some, Option.bind_some, List.nil_append, app_some _ _ (by unfold LIM; simp; omega), Option.bind_some, hs2, Option.bind_some, app_some _ _ (by unfold LIM; simp; omega), Option.bind_some, w64_nat i (by omega)]
    have hperm : (l.take r ++ [(i : Int)] ++ l.drop r).Perm ((i : Int) :: l) := by
      have := List.perm_middle (a := (i : Int)) (l₁ := l.take r) (l₂ := l.drop r)
      rw [List.take_append_drop] at this
      simpa using this
    refine ih (i + 1) N _ v.2.at_ v.2.seed (hi + 2) (by omega) (by omega) g1.2.1 g1.2.2 (by omega) ?_ ?_ ?_
    · rw [hperm.length_eq]; simp; omega
    · rw [hperm.nodup_iff, List.nodup_cons]
      exact ⟨fun hm => by have := h5 _ hm; omega, h4⟩
    · intro x hx
      rcases List.mem_cons.1 (hperm.mem_iff.1 hx) with rfl | hx
      · omega
      · have := h5 x hx; omega
theorem places_ok (code : List UInt8) (n : Nat) (hn : n ≤ 5) (N : Nat) (hN : 20 < N) : ∃ l, s_A2Places N code (n : Int) = some l ∧ l.length = n ∧ l.Nodup ∧ ∀ x ∈ l, 0 ≤ x ∧ x < n := by
  unfold s_A2Places
  rw [fromA]
  simp only [Option.bind_some, withK_eq]
  exact pl_l1 code n hn _ (fun _ => rfl) n 0 N [] 0 0 0 (by omega) (by omega) (Int.le_refl _) (Int.le_refl _) (by omega) rfl List.nodup_nil (fun x hx => by cases hx)
end Go.Proofs.Ythpdpfagfkopnaa
