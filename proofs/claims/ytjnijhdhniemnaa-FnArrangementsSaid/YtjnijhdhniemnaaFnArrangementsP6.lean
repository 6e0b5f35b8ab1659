/-
  Plain lemmas on these functions. No conditions but those that each states.
-/
import Derived.Test.YtjnijhdhniemnaaFnArrangementsP5
namespace Go.Proofs.Ytjnijhdhniemnaa
set_option linter.unusedVariables false
set_option linter.unusedSimpArgs false
/-! Validity, the bound, the mirror, the draws, and the law. -/
theorem vb_ok (b : Basket) (hb : BG b) : i_ValidBasket b = some true := by
  obtain ⟨h1, h2, h3, h4, h5, h6, h7, h8, h9, h10⟩ := hb
  unfold i_ValidBasket i_between
  have e1 : (decide (b.bars ≥ 2) && decide (b.bars ≤ 60)) = true := by
    have a : b.bars ≥ 2 := by omega
    have c : b.bars ≤ 60 := by omega
    simp [a, c]
  have e2 : (decide (b.rise ≥ 1) && decide (b.rise ≤ 100)) = true := by
    have a : b.rise ≥ 1 := by omega
    have c : b.rise ≤ 100 := by omega
    simp [a, c]
  have e3 : (decide (b.fall ≥ 1) && decide (b.fall ≤ 100)) = true := by
    have a : b.fall ≥ 1 := by omega
    have c : b.fall ≤ 100 := by omega
    simp [a, c]
  have e4 : (decide (b.clear ≥ 1) && decide (b.clear ≤ 100)) = true := by
    have a : b.clear ≥ 1 := by omega
    have c : b.clear ≤ 100 := by omega
    simp [a, c]
  have e5 : (decide (b.near ≥ 0) && decide (b.near ≤ 100)) = true := by
    have a : b.near ≥ 0 := by omega
    have c : b.near ≤ 100 := by omega
    simp [a, c]
  simp only [andO_some, Option.bind_some, e1, e2, e3, e4, e5, Bool.and_self]
theorem vp_l2 (kj : Option Bool) (e : List Int) (he : ∀ x ∈ e, 0 ≤ x ∧ x ≤ 20) (hl : e.length ≤ 100) : ∀ (q i N : Nat), i + q = e.length → q < N → i_ValidPairs_l2 kj e N (i : Int) = kj := by
  intro q
  induction q with
  | zero =>
    intro i N hi hN
    obtain ⟨N, rfl⟩ := pos_fuel hN
    have hz : ¬ (i : Int) < (e.length : Int) := by omega
    simp only [i_ValidPairs_l2, hz, decide_false, cond_false]
  | succ q ih =>
    intro i N hi hN
    obtain ⟨N, rfl⟩ := pos_fuel hN
    have hz : (i : Int) < (e.length : Int) := by omega
    have hlt : i < e.length := by omega
    have g := he _ (List.getElem_mem hlt)
    have hb : (decide (e[i] ≥ 0) && decide (e[i] ≤ 1000)) = true := by
      have c : e[i] ≤ 1000 := by omega
      simp [g.1, c]
    simp only [i_ValidPairs_l2, hz, decide_true, cond_true, i_between]
    rw [idx_lt e i hlt, w64_nat i (by omega)]
    simp only [Option.bind_some, andO_some, hb, Bool.not_true, cond_false]
    exact ih (i + 1) N (by omega) (by omega)
theorem vp_l1 (n : Nat) (P : List (List Int)) (hP : PG n P) (kj : Option Bool) : ∀ (q i N : Nat), i + q = n → q + 20 < N → i_ValidPairs_l1 kj P N (i : Int) = kj := by
  obtain ⟨h1, h2, h3, h4⟩ := hP
  intro q
  induction q with
  | zero =>
    intro i N hi hN
    obtain ⟨N, rfl⟩ := pos_fuel (show 0 < N by omega)
    have hz : ¬ (i : Int) < (P.length : Int) := by omega
    simp only [i_ValidPairs_l1, hz, decide_false, cond_false]
  | succ q ih =>
    intro i N hi hN
    obtain ⟨N, rfl⟩ := pos_fuel (show 0 < N by omega)
    have hz : (i : Int) < (P.length : Int) := by omega
    have hlt : i < P.length := by omega
    have he := h4 _ (List.getElem_mem hlt)
    have hl := he.1
    have hne : ((P[i].length : Int) != (P.length : Int)) = false := by simp; omega
    have e2 := vp_l2 (i_ValidPairs_l1 kj P N ((i + 1 : Nat) : Int)) P[i] he.2 (by omega) P[i].length 0 N (by omega) (by omega)
    rw [show ((0 : Nat) : Int) = 0 from rfl] at e2
    simp only [i_ValidPairs_l1, hz, decide_true, cond_true, withK_eq]
    rw [idx_lt P i hlt, Option.bind_some, w64_nat i (by omega), hne, cond_false, e2]
    exact ih (i + 1) N (by omega) (by omega)
theorem vp_ok (n : Nat) (P : List (List Int)) (hP : PG n P) (N : Nat) (hN : 100 < N) : i_ValidPairs N P = some true := by
  have h1 := hP.1
  have h2 := hP.2.1
  have h3 := hP.2.2.1
  unfold i_ValidPairs i_between
  have hb : (decide ((P.length : Int) ≥ 2) && decide ((P.length : Int) ≤ 7)) = true := by
    have a : (P.length : Int) ≥ 2 := by omega
    have c : (P.length : Int) ≤ 7 := by omega
    simp [a, c]
  simp only [andO_some, Option.bind_some, hb, Bool.not_true, cond_false, withK_eq]
  have e := vp_l1 n P hP (some true) n 0 N (by omega) (by omega)
  exact e
theorem mgetI_set (l : List (Int × Bool)) (k s : Int) (v : Bool) : mgetI (msetI l k v) s = if s == k then v else mgetI l s := by
  induction l with
  | nil => cases h : s == k <;> simp [msetI, mgetI, h]
  | cons x r ih =>
    obtain ⟨a, b⟩ := x
    simp only [msetI]
    cases hk : k == a
    · simp only [cond_false, mgetI, ih]
      cases hs : s == a
      · simp
      · have hsk : (s == k) = false := by
          rw [beq_iff_eq] at hs
          rw [beq_eq_false_iff_ne] at hk ⊢
          exact fun e => hk (e ▸ hs)
        simp [hsk]
    · have e : k = a := by simpa using hk
      subst e
      simp only [cond_true, mgetI]
      cases hs : s == k <;> simp
theorem ar_l1 (b : Basket) (hb : BG b) (n : Nat) (hn : n ≤ 7) (p : List Int) (hp : AG b n p) : ∀ (q i N : Nat) (mp : List (Int × Bool)), i + q = n → q < N → (∀ s, mgetI mp s = true → ∃ j, ∃ hj : j < p.length, j < i ∧ p[j] = s) → i_Basket_arranges_l1 (some true) b p N mp (i : Int) = some true := by
  obtain ⟨h1, h2, h3⟩ := hp
  have b1 := hb.1
  have b2 := hb.2.1
  intro q
  induction q with
  | zero =>
    intro i N mp hi hN hm
    obtain ⟨N, rfl⟩ := pos_fuel hN
    have hz : ¬ (i : Int) < (p.length : Int) := by omega
    simp only [i_Basket_arranges_l1, hz, decide_false, cond_false]
  | succ q ih =>
    intro i N mp hi hN hm
    obtain ⟨N, rfl⟩ := pos_fuel hN
    have hz : (i : Int) < (p.length : Int) := by omega
    have hlt : i < p.length := by omega
    have g := h2 _ (List.getElem_mem hlt)
    have hbb : (decide (p[i] ≥ 0) && decide (p[i] ≤ b.bars - 1)) = true := by
      have c : p[i] ≤ b.bars - 1 := by omega
      simp [g.1, c]
    have hmg : mgetI mp p[i] = false := by
      cases hg : mgetI mp p[i]
      · rfl
      · obtain ⟨j, hj, hji, e⟩ := hm _ hg
        have := h3 j i hj hlt e
        omega
    simp only [i_Basket_arranges_l1, hz, decide_true, cond_true, i_Basket_hasBar, i_between]
    rw [idx_lt p i hlt, w64_id (x := b.bars - 1) (by omega) (by omega), w64_nat i (by omega)]
    simp only [Option.bind_some, andO_some, hbb, Bool.not_true, orO_false, hmg, cond_false]
    refine ih (i + 1) N _ (by omega) (by omega) fun s hs => ?_
    rw [mgetI_set] at hs
    cases he : s == p[i]
    · rw [he] at hs
      obtain ⟨j, hj, hji, e⟩ := hm s (by simpa using hs)
      exact ⟨j, hj, by omega, e⟩
    · exact ⟨i, hlt, by omega, (eq_of_beq he).symm⟩
theorem ar_ok (b : Basket) (hb : BG b) (n : Nat) (hn : n ≤ 7) (p : List Int) (hp : AG b n p) (lo hi : Int) (h1 : lo ≤ n) (h2 : (n : Int) ≤ hi) (N : Nat) (hN : 50 < N) : i_Basket_arranges N b p lo hi = some true := by
  have hl := hp.1
  unfold i_Basket_arranges
  have e1 : decide ((p.length : Int) < lo) = false := decide_eq_false (by omega)
  have e2 : decide ((p.length : Int) > hi) = false := decide_eq_false (by omega)
  simp only [e1, e2, orO_some, Bool.or_self, Option.bind_some, cond_false, withK_eq]
  exact ar_l1 b hb n hn p hp n 0 N [] (by omega) (by omega) fun s hs => by cases hs
theorem code_ok (b : Basket) (hb : BG b) (n : Nat) (P : List (List Int)) (hP : PG n P) (p : List Int) (hp : AG b n p) (N : Nat) (hN : 200 < N) : i_arrangeCode N b P p = some 0 := by
  have h1 := hP.1
  have h3 := hP.2.2.1
  unfold i_arrangeCode
  rw [vb_ok b hb, Option.bind_some, vp_ok n P hP N (by omega), ar_ok b hb n (by omega) p hp (P.length : Int) (P.length : Int) (by omega) (by omega) N (by omega)]
  rfl
theorem ac_ok (b : Basket) (hb : BG b) (n : Nat) (P : List (List Int)) (hP : PG n P) (p : List Int) (hp : AG b n p) (N : Nat) (hN : 200 < N) : i_ArrangeCost N b P p = some (tot b P p, 0) := by
  unfold i_ArrangeCost
  rw [code_ok b hb n P hP p hp N hN, Option.bind_some, (cost_ok b hb n P hP p hp.1 hp.2.1 N (by omega)).1]
  rfl
/-! the bound -/
def bR (b : Basket) (i : Nat) : Nat → List Int → Int
  | _, [] => 0
  | j, e :: es => e * (if i = j then b.rise + b.fall else b.clear) + bR b i (j + 1) es
def bT (b : Basket) : Nat → List (List Int) → Int
  | _, [] => 0
  | i, e :: P => bR b i 0 e + bT b (i + 1) P
theorem bR_le (b : Basket) (hb : BG b) (p : List Int) (hd : Df p) (i : Nat) (hi : i < p.length) : ∀ (es : List Int) (j : Nat), (∀ x ∈ es, 0 ≤ x ∧ x ≤ 20) → j + es.length ≤ p.length → 0 ≤ bR b i j es ∧ bR b i j es ≤ cR b p[i] es (p.drop j) := by
  intro es
  induction es with
  | nil => intro j _ _; simp [bR, cR]
  | cons e es ih =>
    intro j h hl
    simp only [List.length_cons] at hl
    have hj : j < p.length := by omega
    obtain ⟨g1, g2⟩ := ih (j + 1) (fun x hx => h x (List.mem_cons_of_mem _ hx)) (by omega)
    have he := h e List.mem_cons_self
    have hw := wt_rng b hb p[i] p[j]
    rw [List.drop_eq_getElem_cons hj]
    simp only [bR, cR]
    have b3 := hb.2.2.1
    have b5 := hb.2.2.2.2.1
    have b7 := hb.2.2.2.2.2.2.1
    by_cases hij : i = j
    · subst hij
      rw [if_pos rfl]
      have : wt b p[i] p[i] = b.rise + b.fall := by unfold wt; rw [if_pos rfl]
      rw [this]
      have := Int.mul_nonneg he.1 (show 0 ≤ b.rise + b.fall by omega)
      omega
    · rw [if_neg hij]
      have hne : p[i] ≠ p[j] := fun e => hij (hd i j hi hj e)
      have h4 := Int.mul_le_mul_of_nonneg_left (hw.2.2 hne) he.1
      have := Int.mul_nonneg he.1 (show 0 ≤ b.clear by omega)
      omega
theorem bT_le (b : Basket) (hb : BG b) (n : Nat) (p : List Int) (hp : p.length = n) (hd : Df p) : ∀ (P : List (List Int)) (i : Nat), (∀ e ∈ P, RG n e) → i + P.length ≤ n → 0 ≤ bT b i P ∧ bT b i P ≤ cT b p P (p.drop i) := by
  intro P
  induction P with
  | nil => intro i _ _; simp [bT, cT]
  | cons e P ih =>
    intro i h hl
    simp only [List.length_cons] at hl
    have hi : i < p.length := by omega
    obtain ⟨g1, g2⟩ := ih (i + 1) (fun x hx => h x (List.mem_cons_of_mem _ hx)) (by omega)
    have he := h e List.mem_cons_self
    obtain ⟨g3, g4⟩ := bR_le b hb p hd i hi e 0 he.2 (by rw [he.1]; omega)
    rw [List.drop_zero] at g4
    rw [List.drop_eq_getElem_cons hi]
    simp only [bT, cT]
    omega
theorem bR_up (b : Basket) (hb : BG b) (i : Nat) : ∀ (es : List Int) (j : Nat), (∀ x ∈ es, 0 ≤ x ∧ x ≤ 20) → 0 ≤ bR b i j es ∧ bR b i j es ≤ 240 * es.length := by
  intro es
  induction es with
  | nil => intro j _; simp [bR]
  | cons e es ih =>
    intro j h
    obtain ⟨g1, g2⟩ := ih (j + 1) (fun x hx => h x (List.mem_cons_of_mem _ hx))
    obtain ⟨a1, a2, a3, a4, a5, a6, a7, a8, _⟩ := hb
    have hm := mul_rng e (if i = j then b.rise + b.fall else b.clear) (h e List.mem_cons_self) (by split <;> omega)
    simp only [bR, List.length_cons]
    omega
theorem ab_l2 (b : Basket) (hb : BG b) (e : List Int) (he : ∀ x ∈ e, 0 ≤ x ∧ x ≤ 20) (hl : e.length ≤ 5) (i : Nat) (hi : i ≤ 5) (kj : Int → Option (Int × Int)) : ∀ (q j N : Nat) (s : Int), j + q = e.length → q < N → 0 ≤ s → s ≤ 1200 * i + 240 * j → i_ArrangeBound_l2 kj b (i : Int) e N s (j : Int) = kj (s + bR b i j (e.drop j)) := by
  obtain ⟨a1, a2, a3, a4, a5, a6, a7, a8, _⟩ := hb
  intro q
  induction q with
  | zero =>
    intro j N s hj hN h0 h1
    obtain ⟨N, rfl⟩ := pos_fuel hN
    have hz : ¬ (j : Int) < (e.length : Int) := by omega
    simp only [i_ArrangeBound_l2, hz, decide_false, cond_false]
    rw [List.drop_eq_nil_of_le (by omega)]
    simp [bR]
  | succ q ih =>
    intro j N s hj hN h0 h1
    obtain ⟨N, rfl⟩ := pos_fuel hN
    have hlt : j < e.length := by omega
    have hz : (j : Int) < (e.length : Int) := by omega
    have hx := he _ (List.getElem_mem hlt)
    simp only [i_ArrangeBound_l2, hz, decide_true, cond_true, withK_eq]
    rw [idx_lt e j hlt, Option.bind_some, w64_nat j (by omega), List.drop_eq_getElem_cons hlt]
    simp only [bR]
    by_cases hij : i = j
    · have hb : ((i : Int) == (j : Int)) = true := by rw [beq_iff_eq]; omega
      have hm := mul_rng e[j] (b.rise + b.fall) hx (by omega)
      rw [hb, cond_true, if_pos hij, w64_id (x := b.rise + b.fall) (by omega) (by omega), w64_id (x := e[j] * (b.rise + b.fall)) (by omega) (by omega), w64_id (x := s + e[j] * (b.rise + b.fall)) (by omega) (by omega), ih (j + 1) N _ (by omega) (by omega) (by omega) (by omega), Int.add_assoc]
    · have hb : ((i : Int) == (j : Int)) = false := by rw [beq_eq_false_iff_ne]; omega
      have hm := mul_rng e[j] b.clear hx (by omega)
      rw [hb, cond_false, if_neg hij, w64_id (x := e[j] * b.clear) (by omega) (by omega), w64_id (x := s + e[j] * b.clear) (by omega) (by omega), ih (j + 1) N _ (by omega) (by omega) (by omega) (by omega), Int.add_assoc]
theorem ab_l1 (b : Basket) (hb : BG b) (n : Nat) (P : List (List Int)) (hP : PG n P) (kj : Int → Option (Int × Int)) : ∀ (q i N : Nat) (s : Int), i + q = n → q + 20 < N → 0 ≤ s → s ≤ 1200 * i → i_ArrangeBound_l1 kj b P N s (i : Int) = kj (s + bT b i (P.drop i)) := by
  obtain ⟨h1, h2, h3, h4⟩ := hP
  intro q
  induction q with
  | zero =>
    intro i N s hi hN h0 hs
    obtain ⟨N, rfl⟩ := pos_fuel (show 0 < N by omega)
    have hz : ¬ (i : Int) < (P.length : Int) := by omega
    simp only [i_ArrangeBound_l1, hz, decide_false, cond_false]
    rw [List.drop_eq_nil_of_le (by omega)]
    simp [bT]
  | succ q ih =>
    intro i N s hi hN h0 hs
    obtain ⟨N, rfl⟩ := pos_fuel (show 0 < N by omega)
    have hlt : i < P.length := by omega
    have hz : (i : Int) < (P.length : Int) := by omega
    have he := h4 _ (List.getElem_mem hlt)
    have hlen := he.1
    have hu := bR_up b hb i P[i] 0 he.2
    have e2 := ab_l2 b hb P[i] he.2 (by omega) i (by omega) (fun sum20 => i_ArrangeBound_l1 kj b P N sum20 ((i + 1 : Nat) : Int)) P[i].length 0 N s (by omega) (by omega) h0 (by omega)
    rw [show ((0 : Nat) : Int) = 0 from rfl] at e2
    simp only [i_ArrangeBound_l1, hz, decide_true, cond_true, withK_eq]
    rw [idx_lt P i hlt, Option.bind_some, w64_nat i (by omega), e2, List.drop_eq_getElem_cons hlt]
    simp only [List.drop_zero, bT]
    rw [ih (i + 1) N _ (by omega) (by omega) (by omega) (by omega), Int.add_assoc]
theorem ab_ok (b : Basket) (hb : BG b) (n : Nat) (P : List (List Int)) (hP : PG n P) (N : Nat) (hN : 200 < N) : i_ArrangeBound N b P = some (bT b 0 P, 0) := by
  have h3 := hP.2.2.1
  unfold i_ArrangeBound
  rw [vb_ok b hb, Option.bind_some, vp_ok n P hP N (by omega)]
  simp only [Option.bind_some, Bool.not_true, orO_false, cond_false, withK_eq]
  have e := ab_l1 b hb n P hP (fun s => some (s, 0)) n 0 N 0 (by omega) (by omega) (by omega) (by omega)
  rw [show ((0 : Nat) : Int) = 0 from rfl] at e
  rw [e]
  simp
/-! the mirror -/
theorem mir_l1 (b : Basket) (hb : BG b) (p : List Int) (hin : InB b p) (hl : p.length ≤ 7) (kj : List Int → Option (List Int × Int)) : ∀ (q i N : Nat) (l : List Int), i + q = p.length → q < N → l.length ≤ i → i_MirrorArrange_l1 kj b p N l (i : Int) = kj (l ++ (p.drop i).map fun y => b.bars - 1 - y) := by
  have b1 := hb.1
  have b2 := hb.2.1
  intro q
  induction q with
  | zero =>
    intro i N l hi hN h0
    obtain ⟨N, rfl⟩ := pos_fuel hN
    have hz : ¬ (i : Int) < (p.length : Int) := by omega
    simp only [i_MirrorArrange_l1, hz, decide_false, cond_false]
    rw [List.drop_eq_nil_of_le (by omega)]
    simp
  | succ q ih =>
    intro i N l hi hN h0
    obtain ⟨N, rfl⟩ := pos_fuel hN
    have hlt : i < p.length := by omega
    have hz : (i : Int) < (p.length : Int) := by omega
    have g := hin _ (List.getElem_mem hlt)
    simp only [i_MirrorArrange_l1, hz, decide_true, cond_true]
    rw [idx_lt p i hlt, Option.bind_some, w64_id (x := b.bars - 1) (by omega) (by omega), w64_id (x := b.bars - 1 - p[i]) (by omega) (by omega), app_some _ _ (by unfold LIM; simp; omega), Option.bind_some, w64_nat i (by omega), ih (i + 1) N _ (by omega) (by omega) (by simp; omega), List.drop_eq_getElem_cons hlt, List.map_cons, List.append_assoc, List.singleton_append]
theorem mir_ok (b : Basket) (hb : BG b) (n : Nat) (hn : 2 ≤ n ∧ n ≤ 5) (p : List Int) (hp : AG b n p) (N : Nat) (hN : 100 < N) : i_MirrorArrange N b p = some (p.map (fun y => b.bars - 1 - y), 0) ∧ AG b n (p.map fun y => b.bars - 1 - y) := by
  have hl := hp.1
  refine ⟨?_, by rw [List.length_map]; exact hl, fun x hx => ?_, fun i j hi hj e => ?_⟩
  · unfold i_MirrorArrange
    rw [vb_ok b hb, Option.bind_some]
    simp only [Bool.not_true, cond_false]
    rw [ar_ok b hb n (by omega) p hp 1 7 (by omega) (by omega) N (by omega), Option.bind_some]
    simp only [Bool.not_true, cond_false, withK_eq]
    have e := mir_l1 b hb p hp.2.1 (by omega) (fun l => some (l, 0)) p.length 0 N [] (by omega) (by omega) (by simp)
    rw [show ((0 : Nat) : Int) = 0 from rfl] at e
    rw [e]
    simp
  · obtain ⟨y, hy, rfl⟩ := List.mem_map.1 hx
    have := hp.2.1 y hy
    omega
  · rw [List.length_map] at hi hj
    simp only [List.getElem_map] at e
    exact hp.2.2 i j hi hj (by omega)
theorem sl_ok (b : Basket) (hb : BG b) (n : Nat) (hn : 2 ≤ n ∧ n ≤ 5) (p : List Int) (hp : AG b n p) (i k : Nat) (hi : i < n) (hk : k < n) (N : Nat) (hN : 100 < N) : i_SwapLetters N b p (i : Int) (k : Int) = some (sw p i k, 0) := by
  have hl := hp.1
  unfold i_SwapLetters i_between
  rw [vb_ok b hb, Option.bind_some]
  simp only [Bool.not_true, cond_false]
  rw [ar_ok b hb n (by omega) p hp 1 7 (by omega) (by omega) N (by omega), Option.bind_some, w64_id (x := (p.length : Int) - 1) (by omega) (by omega)]
  have e1 : (decide ((i : Int) ≥ 0) && decide ((i : Int) ≤ (p.length : Int) - 1)) = true := by
    have c : (i : Int) ≤ (p.length : Int) - 1 := by omega
    simp [c]
  have e2 : (decide ((k : Int) ≥ 0) && decide ((k : Int) ≤ (p.length : Int) - 1)) = true := by
    have c : (k : Int) ≤ (p.length : Int) - 1 := by omega
    simp [c]
  simp only [andO_some, Option.bind_some, e1, e2, Bool.not_true, orO_some, Bool.or_self, cond_false]
  rw [swapped_ok p (by omega) i k (by omega) (by omega)]
  rfl
theorem same_l1 (a : List Int) (ha : a.length ≤ 100) : ∀ (q i N : Nat), i + q = a.length → q < N → w_a2Same_l1 (some true) a a N (i : Int) = some true := by
  intro q
  induction q with
  | zero =>
    intro i N hi hN
    obtain ⟨N, rfl⟩ := pos_fuel hN
    have hz : ¬ (i : Int) < (a.length : Int) := by omega
    simp only [w_a2Same_l1, hz, decide_false, cond_false]
  | succ q ih =>
    intro i N hi hN
    obtain ⟨N, rfl⟩ := pos_fuel hN
    have hz : (i : Int) < (a.length : Int) := by omega
    simp only [w_a2Same_l1, hz, decide_true, cond_true]
    rw [idx_lt a i (by omega), Option.bind_some, Option.bind_some, bne_self_eq_false, cond_false, w64_nat i (by omega)]
    exact ih (i + 1) N (by omega) (by omega)
theorem same_ok (a : List Int) (ha : a.length ≤ 100) (N : Nat) (hN : 200 < N) : w_a2Same N a a = some true := by
  unfold w_a2Same
  simp only [bne_self_eq_false, cond_false, withK_eq]
  exact same_l1 a ha a.length 0 N (by omega) (by omega)
/-! draws -/
theorem basket_ok (code : List UInt8) : ∃ b, s_A2Basket code = some b ∧ BG b := by
  unfold s_A2Basket s_l03Draw
  rw [fromA]
  simp only [Option.bind_some]
  have main : ∃ v, ((s_l00Src_pick (L00Src.mk code 0 0) 10).bind fun r6 =>
    (s_l00Src_pick (L00Src.mk code r6.2.at_ r6.2.seed) 6).bind fun r9 =>
    (s_l00Src_pick (L00Src.mk code r9.2.at_ r9.2.seed) 6).bind fun r11 =>
    (s_l00Src_pick (L00Src.mk code r11.2.at_ r11.2.seed) 4).bind fun r13 =>
    (s_l00Src_pick (L00Src.mk code r13.2.at_ r13.2.seed) 6).bind fun r15 =>
    some ((Basket.mk (w64 (2 + r6.1)) (w64 (1 + r9.1)) (w64 (1 + r11.1)) (w64 (1 + r13.1)) r15.1), (L00Src.mk code r15.2.at_ r15.2.seed))) = some v ∧ (2 ≤ v.1.bars ∧ v.1.bars ≤ 11 ∧ 1 ≤ v.1.rise ∧ v.1.rise ≤ 6 ∧ 1 ≤ v.1.fall ∧ v.1.fall ≤ 6 ∧ 1 ≤ v.1.clear ∧ v.1.clear ≤ 4 ∧ 0 ≤ v.1.near ∧ v.1.near ≤ 5) := by
    refine bindE (pickA (code := code) (hi := 0) 10 ⟨rfl, by show (0 : Int) ≤ 0; omega, by show (0 : Int) ≤ 0; omega⟩ (by omega)) fun v1 g1 => ?_
    refine bindE (pickA (code := code) (hi := 2) 6 ⟨rfl, g1.1.2⟩ (by omega)) fun v2 g2 => ?_
    refine bindE (pickA (code := code) (hi := 4) 6 ⟨rfl, g2.1.2⟩ (by omega)) fun v3 g3 => ?_
    refine bindE (pickA (code := code) (hi := 6) 4 ⟨rfl, g3.1.2⟩ (by omega)) fun v4 g4 => ?_
    refine bindE (pickA (code := code) (hi := 8) 6 ⟨rfl, g4.1.2⟩ (by omega)) fun v5 g5 => ?_
    have a1 := g1.2.1; have c1 := g1.2.2 (by omega)
    have a2 := g2.2.1; have c2 := g2.2.2 (by omega)
    have a3 := g3.2.1; have c3 := g3.2.2 (by omega)
    have a4 := g4.2.1; have c4 := g4.2.2 (by omega)
    have a5 := g5.2.1; have c5 := g5.2.2 (by omega)
    rw [w64_id (x := 2 + v1.1) (by omega) (by omega), w64_id (x := 1 + v2.1) (by omega) (by omega), w64_id (x := 1 + v3.1) (by omega) (by omega), w64_id (x := 1 + v4.1) (by omega) (by omega)]
    exact ⟨_, rfl, by show 2 ≤ 2 + v1.1; omega, by show 2 + v1.1 ≤ 11; omega, by show 1 ≤ 1 + v2.1; omega, by show 1 + v2.1 ≤ 6; omega, by show 1 ≤ 1 + v3.1; omega, by show 1 + v3.1 ≤ 6; omega, by show 1 ≤ 1 + v4.1; omega, by show 1 + v4.1 ≤ 4; omega, a5, by show v5.1 ≤ 5; omega⟩
  obtain ⟨v, e, h⟩ := main
  rw [e, Option.bind_some, w64_id (by omega) (by omega)]
  exact ⟨_, rfl, by show 7 ≤ v.1.bars + 5; omega, by show v.1.bars + 5 ≤ 16; omega, h.2.2⟩
theorem pr_l2 {code : List UInt8} (n : Nat) (hn : n ≤ 5) (kj : List Int → Int → Int → Option (List (List Int) × L00Src)) (Q : List (List Int) × L00Src → Prop) (c : L00Src) (hc : c.code = code) : ∀ (q k N : Nat) (l : List Int) (a sd hi : Int), k + q = n → q < N → 0 ≤ a → a ≤ hi → hi + 4 * q ≤ 1000000 → l.length = k → (∀ x ∈ l, 0 ≤ x ∧ x ≤ 20) → (∀ l' a' sd', RG n l' → 0 ≤ a' → a' ≤ hi + 4 * q → ∃ r, kj l' a' sd' = some r ∧ Q r) → ∃ r, s_l05Draw_l2 kj c (n : Int) N l a sd (k : Int) = some r ∧ Q r := by
  intro q
  induction q with
  | zero =>
    intro k N l a sd hi hk hN h0 h1 h2 h3 h4 h5
    obtain ⟨N, rfl⟩ := pos_fuel hN
    have hz : ¬ (k : Int) < (n : Int) := by omega
    simp only [s_l05Draw_l2, hz, decide_false, cond_false]
    exact h5 l a sd ⟨by omega, h4⟩ h0 (by omega)
  | succ q ih =>
    intro k N l a sd hi hk hN h0 h1 h2 h3 h4 h5
    obtain ⟨N, rfl⟩ := pos_fuel hN
    have hz : (k : Int) < (n : Int) := by omega
    simp only [s_l05Draw_l2, hz, decide_true, cond_true, withK_eq, w64_nat k (show k < 9223372036854775807 by omega)]
    refine bindE (oneA (code := code) (hi := hi) 2 ⟨hc, h0, h1⟩ (by omega)) fun v1 g1 => ?_
    have key : ∀ (x a' sd' : Int), 0 ≤ x ∧ x ≤ 20 → 0 ≤ a' → a' ≤ hi + 4 → ∃ r, ((app l [x]).bind fun l51 => s_l05Draw_l2 kj c (n : Int) N l51 a' sd' ((k + 1 : Nat) : Int)) = some r ∧ Q r := fun x a' sd' hx ha hb => by
      refine appE (by unfold LIM; simp; omega) ?_
      refine ih (k + 1) N _ a' sd' (hi + 4) (by omega) (by omega) ha hb (by omega) (by simp; omega) (fun y hy => ?_) fun l' a2 sd2 q1 q2 q3 => h5 l' a2 sd2 q1 q2 (by omega)
      rcases List.mem_append.1 hy with hy | hy
      · exact h4 y hy
      · rw [List.mem_singleton.1 hy]; exact hx
    have g12 := g1.2.2
    refine condE (fun _ => key 0 _ _ (by omega) g1.2.1 (by omega)) fun _ => ?_
    refine bindE (pickA (code := code) (hi := hi + 2) 20 ⟨hc, g1.2⟩ (by omega)) fun v2 g2 => ?_
    have a2 := g2.2.1
    have c2 := g2.2.2 (by omega)
    have d2 := g2.1.2.2
    exact key v2.1 _ _ ⟨a2, by omega⟩ g2.1.2.1 (by omega)
theorem pr_l1 {code : List UInt8} (n : Nat) (hn : n ≤ 5) (kj : List (List Int) → Int → Int → Option (List (List Int) × L00Src)) (Q : List (List Int) × L00Src → Prop) (c : L00Src) (hc : c.code = code) (hk : ∀ P a sd, P.length = n → (∀ e ∈ P, RG n e) → ∃ r, kj P a sd = some r ∧ Q r) : ∀ (q i N : Nat) (P : List (List Int)) (a sd hi : Int), i + q = n → q + 20 < N → 0 ≤ a → a ≤ hi → hi + 40 * q ≤ 900000 → P.length = i → (∀ e ∈ P, RG n e) → ∃ r, s_l05Draw_l1 kj c (n : Int) N P a sd (i : Int) = some r ∧ Q r := by
  intro q
  induction q with
  | zero =>
    intro i N P a sd hi hi' hN h0 h1 h2 h3 h4
    obtain ⟨N, rfl⟩ := pos_fuel (show 0 < N by omega)
    have hz : ¬ (i : Int) < (n : Int) := by omega
    simp only [s_l05Draw_l1, hz, decide_false, cond_false]
    exact hk P a sd (by omega) h4
  | succ q ih =>
    intro i N P a sd hi hi' hN h0 h1 h2 h3 h4
    obtain ⟨N, rfl⟩ := pos_fuel (show 0 < N by omega)
    have hz : (i : Int) < (n : Int) := by omega
    simp only [s_l05Draw_l1, hz, decide_true, cond_true, withK_eq, w64_nat i (show i < 9223372036854775807 by omega)]
    refine pr_l2 (code := code) n hn _ Q c hc n 0 N [] a sd hi (by omega) (by omega) h0 h1 (by omega) rfl (fun x hx => by cases hx) fun l' a' sd' q1 q2 q3 => ?_
    refine appE (by unfold LIM; simp; omega) ?_
    refine ih (i + 1) N _ a' sd' (hi + 40) (by omega) (by omega) q2 (by omega) (by omega) (by simp; omega) fun e he => ?_
    rcases List.mem_append.1 he with he | he
    · exact h4 e he
    · rw [List.mem_singleton.1 he]; exact q1
theorem pairs_ok (code : List UInt8) (N : Nat) (hN : 100 < N) : ∃ n P, s_A2Pairs N code = some P ∧ PG n P := by
  unfold s_A2Pairs s_l05Draw
  rw [fromA]
  simp only [Option.bind_some, withK_eq]
  obtain ⟨v, e, g1, g2, g3⟩ := pickA (code := code) (hi := 0) (s := L00Src.mk code (L00Src.mk code 0 0).at_ (L00Src.mk code 0 0).seed) 4 ⟨rfl, by show (0 : Int) ≤ 0; omega, by show (0 : Int) ≤ 0; omega⟩ (by omega)
  rw [e, Option.bind_some]
  have h4 := g3 (by omega)
  have ew : w64 (2 + v.1) = ((2 + v.1).toNat : Int) := by rw [w64_id (by omega) (by omega)]; omega
  rw [ew]
  obtain ⟨r, e2, h⟩ := pr_l1 (code := code) (2 + v.1).toNat (by omega) (fun (l7 : List (List Int)) (x10 : Int) (x11 : Int) => some (l7, (L00Src.mk code x10 x11))) (fun r => PG (2 + v.1).toNat r.1) (L00Src.mk code v.2.at_ v.2.seed) rfl (fun P a sd h1 h2 => ⟨_, rfl, h1, by omega, by omega, h2⟩) (2 + v.1).toNat 0 N [] v.2.at_ v.2.seed 2 (by omega) (by omega) g1.2.1 g1.2.2 (by omega) rfl (fun e he => by cases he)
  rw [show ((0 : Nat) : Int) = 0 from rfl] at e2
  rw [e2]
  exact ⟨_, _, rfl, h⟩
end Go.Proofs.Ytjnijhdhniemnaa
