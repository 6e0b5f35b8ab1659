/-
  Plain lemmas on these functions. No conditions but those that each states.
-/
import Derived.Test.YtlmpbacboapkaaaFnBreaksP3
namespace Go.Proofs.Ytlmpbacboapkaaa
set_option linter.unusedVariables false
set_option linter.unusedSimpArgs false
theorem idx_dropG {α : Type} {s r : List α} {i : Nat} {c : α} (h : s.drop i = c :: r) : idx s (i : Int) = some c ∧ s.drop (i + 1) = r ∧ i < s.length := by
  have hl : i < s.length := by
    have := congrArg List.length h
    rw [List.length_drop] at this
    simp at this; omega
  rw [List.drop_eq_getElem_cons hl] at h
  injection h with h1 h2
  exact ⟨by rw [idx_lt s i hl, h1], h2, hl⟩
/-! The lines of breaks. -/
def lbi (ws : List Str) : Nat → List Nat → List (List Str)
  | _, [] => []
  | p, b :: r => seg ws p b :: lbi ws b r
def pl : Nat → List Nat → Nat
  | p, [] => p
  | _, b :: r => pl b r
def lb (ws : List Str) (bs : List Nat) : List (List Str) := lbi ws 0 bs ++ [seg ws (pl 0 bs) ws.length]
theorem lbi_len (ws : List Str) : ∀ (bs : List Nat) (p : Nat), (lbi ws p bs).length = bs.length
  | [], _ => rfl
  | b :: r, p => by simp only [lbi, List.length_cons, lbi_len ws r b]
theorem Pth.last {P : Nat → Int} {W : Int} {n : Nat} : ∀ {bs : List Nat} {p : Nat}, Pth P W n p bs → pl p bs < n ∧ P n - P (pl p bs) - 1 ≤ W
  | [], _, h => h
  | b :: r, _, h => Pth.last (bs := r) (p := b) h.2.2.2
theorem lby_l1 {ws : List Str} (h : TW ws) (W : Int) (bs : List Nat) (hb : bs.length ≤ 40) (kj : List (List Str) → Int → Option (List (List Str))) : ∀ (q x N p : Nat) (acc : List (List Str)), x + q = bs.length → q < N → acc.length ≤ x → Pth (PW ws) W ws.length p (bs.drop x) → i_linesBy_l1 kj ws (toI bs) N acc (p : Int) (x : Int) = kj (acc ++ lbi ws p (bs.drop x)) (pl p (bs.drop x) : Int) := by
  have htl : (toI bs).length = bs.length := by simp [toI]
  intro q
  induction q with
  | zero =>
    intro x N p acc hx hN ha hp
    obtain ⟨N, rfl⟩ := pos_fuel hN
    rw [i_linesBy_l1, decide_eq_false (by omega : ¬ (x : Int) < ((toI bs).length : Int)), cond_false, List.drop_eq_nil_of_le (by omega)]
    simp [lbi, pl]
  | succ q ih =>
    intro x N p acc hx hN ha hp
    obtain ⟨N, rfl⟩ := pos_fuel hN
    have hlt : x < bs.length := by omega
    have hi : idx (toI bs) (x : Int) = some (bs[x] : Int) := by
      rw [idx_lt _ x (by omega)]; simp [toI]
    rw [List.drop_eq_getElem_cons hlt] at hp ⊢
    obtain ⟨g1, g2, g3, g4⟩ := hp
    rw [i_linesBy_l1, decide_eq_true (by omega : (x : Int) < ((toI bs).length : Int)), cond_true, hi, Option.bind_some, sub_seg ws (Nat.le_of_lt g1) (by omega), Option.bind_some, app_some _ _ (by unfold LIM; simp; omega), Option.bind_some, w64_nat x (by omega), ih (x + 1) N bs[x] _ (by omega) (by omega) (by simp; omega) g4]
    simp [lbi, pl]
theorem lby_ok {ws : List Str} (h : TW ws) (W : Int) (bs : List Nat) (hp : Pth (PW ws) W ws.length 0 bs) (N : Nat) (hN : 100 < N) : i_linesBy N ws (toI bs) = some (lb ws bs) := by
  have hl := h.1
  have hlen := hp.len
  have e0 : ((ws.length : Int) == 0) = false := by rw [beq_eq_false_iff_ne]; omega
  obtain ⟨z1, z2⟩ := hp.last
  unfold i_linesBy
  rw [e0, cond_false, withK_n]
  have := lby_l1 h W bs (by omega) (fun (l9 : List (List Str)) (start12 : Int) => (sub ws start12 (ws.length : Int)).bind fun l35 => (app l9 ([l35] : List (List Str))).bind fun l41 => some l41) bs.length 0 N 0 [] (by omega) (by omega) (Nat.le_refl _) (by simpa using hp)
  rw [show ((0 : Nat) : Int) = 0 from rfl] at this
  rw [this, List.drop_zero, List.nil_append, sub_seg ws (Nat.le_of_lt z1) (Nat.le_refl _), Option.bind_some, app_some _ _ (by rw [lbi_len]; unfold LIM; simp; omega), Option.bind_some]
  rfl
theorem lbi_mem {ws : List Str} (h : TW ws) (W : Int) : ∀ (bs : List Nat) (p : Nat), Pth (PW ws) W ws.length p bs → ∀ l ∈ lbi ws p bs, ∃ v, v ≤ W ∧ ∀ N : Nat, 100 < N → i_lineLength N l = some v
  | [], _, _, l, hl => by cases hl
  | b :: r, p, hp, l, hl => by
    obtain ⟨g1, g2, g3, g4⟩ := hp
    rcases List.mem_cons.1 hl with rfl | hl
    · exact ⟨_, g3, fun N hN => (segl h g1 (by omega) N hN).2.1⟩
    · exact lbi_mem h W r b g4 l hl
theorem lc_l1 (W : Int) (kj : Option Int) (R : List (List Str)) (hR : R.length ≤ 100) (hm : ∀ l ∈ R, ∃ v, v ≤ W ∧ ∀ N : Nat, 100 < N → i_lineLength N l = some v) : ∀ (q x N : Nat), x + q = R.length → q + 200 < N → i_linesCode_l1 kj W R N (x : Int) = kj := by
  intro q
  induction q with
  | zero =>
    intro x N hx hN
    obtain ⟨N, rfl⟩ := pos_fuel (show 0 < N by omega)
    rw [i_linesCode_l1, decide_eq_false (by omega : ¬ (x : Int) < (R.length : Int)), cond_false]
  | succ q ih =>
    intro x N hx hN
    obtain ⟨N, rfl⟩ := pos_fuel (show 0 < N by omega)
    have hlt : x < R.length := by omega
    obtain ⟨v, h1, h2⟩ := hm _ (List.getElem_mem hlt)
    rw [i_linesCode_l1, decide_eq_true (by omega : (x : Int) < (R.length : Int)), cond_true, idx_lt R x hlt, Option.bind_some, h2 N (by omega), Option.bind_some, decide_eq_false (by omega), cond_false, w64_nat x (by omega)]
    exact ih (x + 1) N (by omega) (by omega)
theorem ab_l1 (bs : List Nat) (n : Nat) (hn : n ≤ 40) (hb : ∀ b ∈ bs, 0 < b ∧ b < n) (hpw : bs.Pairwise (· < ·)) (hl : bs.length ≤ 40) (kj : Option Bool) : ∀ (q x N : Nat), x + q = bs.length → q < N → i_areBreaks_l1 kj (toI bs) (n : Int) N (x : Int) = kj := by
  have htl : (toI bs).length = bs.length := by simp [toI]
  intro q
  induction q with
  | zero =>
    intro x N hx hN
    obtain ⟨N, rfl⟩ := pos_fuel hN
    rw [i_areBreaks_l1, decide_eq_false (by omega : ¬ (x : Int) < ((toI bs).length : Int)), cond_false]
  | succ q ih =>
    intro x N hx hN
    obtain ⟨N, rfl⟩ := pos_fuel hN
    have hlt : x < bs.length := by omega
    have hbx := hb _ (List.getElem_mem hlt)
    have hi : idx (toI bs) (x : Int) = some (bs[x] : Int) := by
      rw [idx_lt _ x (by omega)]; simp [toI]
    have hbt : i_between (bs[x] : Int) 1 (w64 ((n : Int) - 1)) = some true := by
      unfold i_between
      rw [w64_id (x := (n : Int) - 1) (by omega) (by omega), decide_eq_true (by omega : (bs[x] : Int) ≥ 1), andO_true, Option.bind_some, decide_eq_true (by omega)]
    rw [i_areBreaks_l1, decide_eq_true (by omega : (x : Int) < ((toI bs).length : Int)), cond_true, hi, Option.bind_some, hbt, Option.bind_some, Bool.not_true, orO_false, w64_nat x (by omega)]
    have hrec := ih (x + 1) N (by omega) (by omega)
    by_cases hx0 : x = 0
    · subst hx0
      rw [decide_eq_false (by omega : ¬ ((0 : Nat) : Int) > 0), andO_false, Option.bind_some, Option.bind_some, cond_false]
      exact hrec
    · have hlt2 : x - 1 < bs.length := by omega
      have e1 : w64 ((x : Int) - 1) = ((x - 1 : Nat) : Int) := by rw [w64_id (by omega) (by omega)]; omega
      have hi2 : idx (toI bs) ((x - 1 : Nat) : Int) = some (bs[x - 1] : Int) := by
        rw [idx_lt _ (x - 1) (by omega)]; simp [toI]
      have hp := List.pairwise_iff_getElem.1 hpw (x - 1) x hlt2 hlt (by omega)
      rw [decide_eq_true (by omega : (x : Int) > 0), andO_true, e1, hi2, Option.bind_some, decide_eq_false (by omega), Option.bind_some, Option.bind_some, cond_false]
      exact hrec
theorem code_ok {ws : List Str} (h : TW ws) (W : Int) (h1 : 1 ≤ W) (h2 : W ≤ 80) (hf : ∀ x ∈ ws, (x.length : Int) ≤ W) (bs : List Nat) (hp : Pth (PW ws) W ws.length 0 bs) (N : Nat) (hN : 500 < N) : i_linesCode N ws W (toI bs) = some 0 := by
  have hl := h.1
  have hlen := hp.len
  obtain ⟨z1, z2⟩ := hp.last
  have hR : (lb ws bs).length = bs.length + 1 := by unfold lb; simp [lbi_len]
  unfold i_linesCode i_areBreaks
  have hab := ab_l1 bs ws.length hl (fun b hb => hp.gt b hb) hp.pw (by omega) (some true) bs.length 0 N (by omega) (by omega)
  have hlc := lc_l1 W (some 0) (lb ws bs) (by omega) (fun l hl' => by
    unfold lb at hl'
    rcases List.mem_append.1 hl' with hl' | hl'
    · exact lbi_mem h W bs 0 hp l hl'
    · rw [List.mem_singleton.1 hl']
      exact ⟨_, z2, fun N hN => (segl h z1 (Nat.le_refl _) N hN).2.1⟩) (lb ws bs).length 0 N (by omega) (by omega)
  rw [show ((0 : Nat) : Int) = 0 from rfl] at hab hlc
  rw [(vt_ok h W h1 h2 N hN).1, fits_of hf, Option.bind_some, Bool.not_true, cond_false, withK_n, hab, Option.bind_some, Bool.not_true, cond_false, withK_n, lby_ok h W bs hp N (by omega), Option.bind_some, hlc]
theorem sq_b {d : Int} (h0 : 0 ≤ d) (h1 : d ≤ 80) : 0 ≤ d * d ∧ d * d ≤ 6400 :=
  ⟨Int.mul_nonneg h0 h0, Int.le_trans (Int.mul_le_mul h1 h1 h0 (by omega)) (by omega)⟩
theorem bad_l1 {ws : List Str} (h : TW ws) (W : Int) (h1 : 1 ≤ W) (h2 : W ≤ 80) (R : List (List Str)) (hR : R.length ≤ 100) (z : List Str) (kj : Int → Option (Int × Int)) : ∀ (bs : List Nat) (p x N : Nat) (sum : Int), R.drop x = lbi ws p bs ++ [z] → Pth (PW ws) W ws.length p bs → bs.length + 200 < N → 0 ≤ sum → sum ≤ 6400 * x → i_BadnessOf_l1 kj W R N sum (x : Int) = kj (sum + bd (PW ws) W p bs)
  | [], p, x, N, sum, hd, hp, hN, s0, s1 => by
    obtain ⟨N, rfl⟩ := pos_fuel (show 0 < N by omega)
    have hl := congrArg List.length hd
    rw [List.length_drop] at hl
    simp [lbi] at hl
    rw [i_BadnessOf_l1, w64_nat x (by omega), decide_eq_false (by omega), cond_false]
    simp only [bd, Int.add_zero]
  | b :: r, p, x, N, sum, hd, hp, hN, s0, s1 => by
    obtain ⟨N, rfl⟩ := pos_fuel (show 0 < N by omega)
    have hl := congrArg List.length hd
    rw [List.length_drop] at hl
    simp [lbi] at hl
    obtain ⟨g1, g2, g3, g4⟩ := hp
    obtain ⟨i1, i2, i3⟩ := idx_dropG (show R.drop x = seg ws p b :: (lbi ws b r ++ [z]) from hd)
    have hb := PW_b h g1 (Nat.le_of_lt g2)
    obtain ⟨q1, q2⟩ := sq_b (d := W - (PW ws b - PW ws p - 1)) (by omega) (by omega)
    simp only [List.length_cons] at hN
    rw [i_BadnessOf_l1, w64_nat x (by omega), decide_eq_true (by omega), cond_true, i1, Option.bind_some, (segl h g1 (Nat.le_of_lt g2) N (by omega)).2.1, Option.bind_some, w64_id (x := W - (PW ws b - PW ws p - 1)) (by omega) (by omega), w64_id (x := (W - (PW ws b - PW ws p - 1)) * (W - (PW ws b - PW ws p - 1))) (by omega) (by omega), w64_id (x := sum + _) (by omega) (by omega)]
    rw [bad_l1 h W h1 h2 R hR z kj r b (x + 1) N _ i2 g4 (by omega) (by omega) (by omega)]
    simp only [bd, Int.add_assoc]
theorem bad_ok {ws : List Str} (h : TW ws) (W : Int) (h1 : 1 ≤ W) (h2 : W ≤ 80) (hf : ∀ x ∈ ws, (x.length : Int) ≤ W) (bs : List Nat) (hp : Pth (PW ws) W ws.length 0 bs) (N : Nat) (hN : 500 < N) : i_BadnessOf N ws W (toI bs) = some (bd (PW ws) W 0 bs, 0) := by
  have hl := h.1
  have hlen := hp.len
  have hR : (lb ws bs).length = bs.length + 1 := by unfold lb; simp [lbi_len]
  unfold i_BadnessOf
  rw [code_ok h W h1 h2 hf bs hp N hN, Option.bind_some, show ((0 : Int) != 0) = false from rfl, cond_false, lby_ok h W bs hp N (by omega), Option.bind_some, withK_n]
  have := bad_l1 h W h1 h2 (lb ws bs) (by omega) _ (fun sum15 => some (sum15, (0 : Int))) bs 0 0 N 0 (by rw [List.drop_zero]; rfl) hp (by omega) (Int.le_refl _) (by omega)
  rw [show ((0 : Nat) : Int) = 0 from rfl, Int.zero_add] at this
  exact this
/-! The best breaks. -/
def gI (l : List Int) (i : Nat) : Int := l[i]?.getD 0
theorem gI_idx {l : List Int} {i : Nat} (h : i < l.length) : idx l (i : Int) = some (gI l i) := by
  rw [idx_lt l i h]; unfold gI; rw [List.getElem?_eq_getElem h]; rfl
theorem gI_set_self {l : List Int} {i : Nat} (h : i < l.length) (v : Int) : gI (l.set i v) i = v := by
  unfold gI; rw [List.getElem?_set_self h]; rfl
theorem gI_set_ne {l : List Int} {i j : Nat} (h : j ≠ i) (v : Int) : gI (l.set i v) j = gI l j := by
  unfold gI; rw [List.getElem?_set_ne (fun e => h e.symm)]
def sqr (ws : List Str) (W : Int) (i k : Nat) : Int := (W - (PW ws k - PW ws i - 1)) * (W - (PW ws k - PW ws i - 1))
theorem bb_l2 {ws : List Str} (h : TW ws) (W : Int) (h1 : 1 ≤ W) (h2 : W ≤ 80) (i : Nat) (hi : i + 1 < ws.length) (hfit : PW ws (i + 1) - PW ws i - 1 ≤ W) (C X0 : List Int) (hC : ∀ k, i < k → k < ws.length → 0 ≤ gI C k ∧ gI C k ≤ 6400 * (ws.length - k : Nat))
    (kj : List Int → List Int → Option (List Int × Int × Int)) (Q : Option (List Int × Int × Int) → Prop)
    (k0 : ∀ X Y : List Int, X.length = ws.length + 1 → Y.length = ws.length + 1 → (∀ j, j ≠ i → gI Y j = gI C j) → (∀ j, j ≠ i → gI X j = gI X0 j) → (∃ m : Nat, gI X i = m ∧ i < m ∧ m < ws.length ∧ PW ws m - PW ws i - 1 ≤ W ∧ gI Y i = sqr ws W i m + gI C m ∧ ∀ k, i < k → k < ws.length → PW ws k - PW ws i - 1 ≤ W → gI Y i ≤ sqr ws W i k + gI C k) → Q (kj X Y)) :
    ∀ (q k N : Nat) (X Y : List Int), k + q = ws.length → q + 200 < N → i < k → X.length = ws.length + 1 → Y.length = ws.length + 1 → (∀ j, j ≠ i → gI Y j = gI C j) → (∀ j, j ≠ i → gI X j = gI X0 j) → (∀ k', i < k' → k' < k → PW ws k' - PW ws i - 1 ≤ W) →
      ((k = i + 1 ∧ gI Y i = -1) ∨ (i + 1 < k ∧ ∃ m : Nat, gI X i = m ∧ i < m ∧ m < k ∧ gI Y i = sqr ws W i m + gI C m ∧ ∀ k', i < k' → k' < k → gI Y i ≤ sqr ws W i k' + gI C k')) →
      Q (i_BestBreaks_l2 kj ws W (i : Int) N X Y (k : Int)) := by
  have hl := h.1
  have hfin : ∀ (k : Nat) (X Y : List Int), i < k → k ≤ ws.length → (k = ws.length ∨ ¬ PW ws k - PW ws i - 1 ≤ W) → (∀ k', i < k' → k' < k → PW ws k' - PW ws i - 1 ≤ W) →
      ((k = i + 1 ∧ gI Y i = -1) ∨ (i + 1 < k ∧ ∃ m : Nat, gI X i = m ∧ i < m ∧ m < k ∧ gI Y i = sqr ws W i m + gI C m ∧ ∀ k', i < k' → k' < k → gI Y i ≤ sqr ws W i k' + gI C k')) →
      (∃ m : Nat, gI X i = m ∧ i < m ∧ m < ws.length ∧ PW ws m - PW ws i - 1 ≤ W ∧ gI Y i = sqr ws W i m + gI C m ∧ ∀ k, i < k → k < ws.length → PW ws k - PW ws i - 1 ≤ W → gI Y i ≤ sqr ws W i k + gI C k) := by
    intro k X Y hik hk he hall hI
    rcases hI with ⟨rfl, _⟩ | ⟨_, m, m1, m2, m3, m4, m5⟩
    · exfalso
      rcases he with he | he
      · omega
      · exact he hfit
    · refine ⟨m, m1, m2, by omega, hall m m2 m3, m4, fun k' a1 a2 a3 => ?_⟩
      by_cases hk' : k' < k
      · exact m5 k' a1 hk'
      · exfalso
        rcases he with he | he
        · omega
        · have := PW_mono ws (show k ≤ k' by omega)
          omega
  intro q
  induction q with
  | zero =>
    intro k N X Y hk hN hik hX hY hYo hXo hall hI
    obtain ⟨N, rfl⟩ := pos_fuel (show 0 < N by omega)
    rw [i_BestBreaks_l2, decide_eq_false (by omega : ¬ (k : Int) < (ws.length : Int)), andO_false, Option.bind_some, cond_false]
    exact k0 X Y hX hY hYo hXo (hfin k X Y hik (by omega) (.inl (by omega)) hall hI)
  | succ q ih =>
    intro k N X Y hk hN hik hX hY hYo hXo hall hI
    obtain ⟨N, rfl⟩ := pos_fuel (show 0 < N by omega)
    obtain ⟨e1, e2, _⟩ := segl h hik (by omega) N (by omega)
    obtain ⟨b1, b2⟩ := PW_b h hik (show k ≤ ws.length by omega)
    rw [i_BestBreaks_l2, decide_eq_true (by omega : (k : Int) < (ws.length : Int)), andO_true, e1, Option.bind_some, e2, Option.bind_some, Option.bind_some]
    by_cases hc : PW ws k - PW ws i - 1 ≤ W
    · rw [decide_eq_true hc, cond_true]
      simp only [withK_n]
      obtain ⟨c1, c2⟩ := hC k hik (by omega)
      obtain ⟨q1, q2⟩ := sq_b (d := W - (PW ws k - PW ws i - 1)) (by omega) (by omega)
      have hsq : sqr ws W i k = (W - (PW ws k - PW ws i - 1)) * (W - (PW ws k - PW ws i - 1)) := rfl
      rw [Option.bind_some, e2, Option.bind_some, gI_idx (l := Y) (i := k) (by omega), Option.bind_some, gI_idx (l := Y) (i := i) (by omega), Option.bind_some, hYo k (by omega)]
      rw [w64_id (x := W - (PW ws k - PW ws i - 1)) (by omega) (by omega), w64_id (x := (W - (PW ws k - PW ws i - 1)) * (W - (PW ws k - PW ws i - 1))) (by omega) (by omega), w64_id (x := (W - (PW ws k - PW ws i - 1)) * (W - (PW ws k - PW ws i - 1)) + gI C k) (by omega) (by omega), w64_nat k (by omega), Option.bind_some, orO_some, Option.bind_some, gI_idx (l := X) (i := i) (by omega), Option.bind_some, Option.bind_some, ← hsq]
      have hall' : ∀ k', i < k' → k' < k + 1 → PW ws k' - PW ws i - 1 ≤ W := fun k' a1 a2 => by
        by_cases e : k' = k
        · rw [e]; exact hc
        · exact hall k' a1 (by omega)
      by_cases hu : gI Y i < 0 ∨ sqr ws W i k + gI C k < gI Y i
      · have : (decide (gI Y i < 0) || decide (sqr ws W i k + gI C k < gI Y i)) = true := by
          rw [Bool.or_eq_true]; exact hu.imp decide_eq_true decide_eq_true
        rw [this, cond_true, Int.toNat_natCast]
        refine ih (k + 1) N _ _ (by omega) (by omega) (by omega) (by simpa using hX) (by simpa using hY) (fun j hj => by rw [gI_set_ne hj]; exact hYo j hj) (fun j hj => by rw [gI_set_ne hj]; exact hXo j hj) hall' (.inr ⟨by omega, k, gI_set_self (by omega) _, hik, by omega, gI_set_self (by omega) _, fun k' a1 a2 => ?_⟩)
        rw [gI_set_self (by omega)]
        by_cases e : k' = k
        · rw [e]; exact Int.le_refl _
        · rcases hI with ⟨hk1, _⟩ | ⟨_, m, m1, m2, m3, m4, m5⟩
          · omega
          · have a3 := m5 k' a1 (by omega)
            rcases hu with hu | hu
            · have := (hC m m2 (by omega)).1
              have : 0 ≤ sqr ws W i m := by
                have hb := PW_b h m2 (show m ≤ ws.length by omega)
                exact (sq_b (d := W - (PW ws m - PW ws i - 1)) (by have := hall m m2 m3; omega) (by omega)).1
              omega
            · omega
      · have u1 : ¬ gI Y i < 0 := fun g => hu (.inl g)
        have u2 : ¬ sqr ws W i k + gI C k < gI Y i := fun g => hu (.inr g)
        rw [decide_eq_false u1, decide_eq_false u2, Bool.or_self, cond_false]
        refine ih (k + 1) N X Y (by omega) (by omega) (by omega) hX hY hYo hXo hall' (.inr ⟨by omega, ?_⟩)
        rcases hI with ⟨hk1, hk2⟩ | ⟨_, m, m1, m2, m3, m4, m5⟩
        · omega
        · refine ⟨m, m1, m2, by omega, m4, fun k' a1 a2 => ?_⟩
          by_cases e : k' = k
          · rw [e]; omega
          · exact m5 k' a1 (by omega)
    · rw [decide_eq_false hc, cond_false]
      exact k0 X Y hX hY hYo hXo (hfin k X Y hik (by omega) (.inr hc) hall hI)
def gN (l : List Int) (i : Nat) : Nat := (gI l i).toNat
theorem Cst.congr {P : Nat → Int} {W : Int} {n : Nat} {c c' : Nat → Int} {nx nx' : Nat → Nat} {i : Nat} (h : Cst P W n c nx i) (hi : i < n) (hc : ∀ k, i ≤ k → k < n → c' k = c k) (hx : nx' i = nx i) : Cst P W n c' nx' i := by
  have e := hc i (Nat.le_refl _) hi
  refine ⟨by rw [e]; exact h.nn, fun g => by rw [e, hx]; exact h.fit g, fun g => ?_⟩
  obtain ⟨g1, g2, g3, g4, g5⟩ := h.no g
  rw [e, hx, hc (nx i) (by omega) g2]
  exact ⟨g1, g2, g3, g4, fun k k1 k2 k3 => by rw [hc k (by omega) k2]; exact g5 k k1 k2 k3⟩
theorem bb_l1 {ws : List Str} (h : TW ws) (W : Int) (h1 : 1 ≤ W) (h2 : W ≤ 80) (hf : ∀ x ∈ ws, (x.length : Int) ≤ W) (kj : List Int → List Int → Option (List Int × Int × Int)) (Q : Option (List Int × Int × Int) → Prop)
    (k0 : ∀ X Y : List Int, X.length = ws.length + 1 → Y.length = ws.length + 1 → (∀ i, i < ws.length → Cst (PW ws) W ws.length (gI Y) (gN X) i ∧ gI X i = (gN X i : Int)) → Q (kj X Y)) :
    ∀ (j N : Nat) (X Y : List Int), j ≤ ws.length → j + 500 < N → X.length = ws.length + 1 → Y.length = ws.length + 1 → (∀ i, i < j → gI Y i = 0) → (∀ i, j ≤ i → i < ws.length → Cst (PW ws) W ws.length (gI Y) (gN X) i ∧ gI X i = (gN X i : Int) ∧ gI Y i ≤ 6400 * (ws.length - i : Nat)) →
      Q (i_BestBreaks_l1 kj ws W N X Y ((j : Int) - 1)) := by
  have hl := h.1
  intro j
  induction j with
  | zero =>
    intro N X Y hj hN hX hY hz hI
    obtain ⟨N, rfl⟩ := pos_fuel (show 0 < N by omega)
    rw [i_BestBreaks_l1, decide_eq_false (by omega : ¬ ((0 : Nat) : Int) - 1 ≥ 0), cond_false]
    exact k0 X Y hX hY fun i hi => ⟨(hI i (Nat.zero_le _) hi).1, (hI i (Nat.zero_le _) hi).2.1⟩
  | succ i ih =>
    intro N X Y hj hN hX hY hz hI
    obtain ⟨N, rfl⟩ := pos_fuel (show 0 < N by omega)
    have e : (((i + 1 : Nat) : Int) - 1) = (i : Int) := by omega
    have hin : i < ws.length := by omega
    obtain ⟨s1, s2, _⟩ := segl h hin (Nat.le_refl _) N (by omega)
    rw [e, i_BestBreaks_l1, decide_eq_true (by omega : (i : Int) ≥ 0), cond_true]
    simp only [withK_n]
    rw [gI_idx (l := X) (i := i) (by omega), Option.bind_some, s1, Option.bind_some, s2, Option.bind_some, Int.toNat_natCast, w64_id (x := (i : Int) - 1) (by omega) (by omega)]
    by_cases hc : PW ws ws.length - PW ws i - 1 ≤ W
    · rw [decide_eq_true hc, cond_true]
      refine ih N _ Y (by omega) (by omega) (by simpa using hX) hY (fun k hk => hz k (by omega)) fun k k1 k2 => ?_
      by_cases hk : k = i
      · subst hk
        have hx : gI (X.set k (ws.length : Int)) k = (ws.length : Int) := gI_set_self (by omega) _
        have hn : gN (X.set k (ws.length : Int)) k = ws.length := by unfold gN; rw [hx]; omega
        have hy := hz k (by omega)
        exact ⟨⟨by omega, fun _ => ⟨hy, hn⟩, fun g => absurd hc g⟩, by rw [hn, hx], by rw [hy]; omega⟩
      · obtain ⟨g1, g2, g3⟩ := hI k (by omega) k2
        have hx : gI (X.set i (ws.length : Int)) k = gI X k := gI_set_ne hk _
        have hn : gN (X.set i (ws.length : Int)) k = gN X k := by unfold gN; rw [hx]
        exact ⟨g1.congr k2 (fun _ _ _ => rfl) hn, by rw [hx, hn]; exact g2, g3⟩
    · rw [decide_eq_false hc, cond_false, gI_idx (l := Y) (i := i) (by omega), Option.bind_some, w64_nat i (by omega)]
      have hone := one_len i hin
      have hfit : PW ws (i + 1) - PW ws i - 1 ≤ W := by rw [hone]; exact hf _ (List.getElem_mem hin)
      have hi1 : i + 1 < ws.length := by
        rcases Nat.lt_or_ge (i + 1) ws.length with g | g
        · exact g
        · exfalso
          have : i + 1 = ws.length := by omega
          rw [this] at hfit
          exact hc hfit
      refine bb_l2 h W h1 h2 i hi1 hfit Y X (fun k k1 k2 => ?_) _ Q (fun X' Y' hX' hY' hYo hXo hm => ?_) (ws.length - (i + 1)) (i + 1) N _ _ (by omega) (by omega) (by omega) (by simpa using hX) (by simpa using hY) (fun k hk => gI_set_ne hk _) (fun k hk => gI_set_ne hk _) (fun k' a1 a2 => by omega) (.inl ⟨rfl, gI_set_self (by omega) _⟩)
      · obtain ⟨g1, g2, g3⟩ := hI k (by omega) k2
        exact ⟨g1.nn, g3⟩
      · obtain ⟨m, m1, m2, m3, m4, m5, m6⟩ := hm
        have hmn : gN X' i = m := by unfold gN; rw [m1]; omega
        have hcm := hI m (by omega) m3
        have hb := PW_b h m2 (show m ≤ ws.length by omega)
        obtain ⟨q1, q2⟩ := sq_b (d := W - (PW ws m - PW ws i - 1)) (by omega) (by omega)
        have hsq : sqr ws W i m = (W - (PW ws m - PW ws i - 1)) * (W - (PW ws m - PW ws i - 1)) := rfl
        have hcn := hcm.1.nn
        refine ih N X' Y' (by omega) (by omega) hX' hY' (fun k hk => by rw [hYo k (by omega)]; exact hz k (by omega)) fun k k1 k2 => ?_
        by_cases hk : k = i
        · subst hk
          refine ⟨⟨by omega, fun g => absurd g hc, fun _ => ?_⟩, by rw [hmn, m1], by omega⟩
          rw [hmn, hYo m (by omega)]
          exact ⟨m2, m3, m4, m5, fun k' a1 a2 a3 => by rw [hYo k' (by omega)]; exact m6 k' a1 a2 a3⟩
        · obtain ⟨g1, g2, g3⟩ := hI k (by omega) k2
          have hx : gI X' k = gI X k := hXo k hk
          have hn : gN X' k = gN X k := by unfold gN; rw [hx]
          exact ⟨g1.congr k2 (fun k' a1 _ => hYo k' (by omega)) hn, by rw [hx, hn]; exact g2, by rw [hYo k hk]; exact g3⟩
theorem bb_l3 {ws : List Str} (h : TW ws) (W : Int) (X Y : List Int) (hX : X.length = ws.length + 1) (hI : ∀ i, i < ws.length → Cst (PW ws) W ws.length (gI Y) (gN X) i ∧ gI X i = (gN X i : Int)) (kj : List Int → Option (List Int × Int × Int)) : ∀ (d i N : Nat) (acc : List Int), i + d = ws.length → i < ws.length → d < N → acc.length ≤ i → ∃ bs, Pth (PW ws) W ws.length i bs ∧ bd (PW ws) W i bs = gI Y i ∧ i_BestBreaks_l3 kj ws X N acc (i : Int) = kj (acc ++ toI bs) := by
  have hl := h.1
  intro d
  induction d using Nat.strongRecOn with
  | _ d ih =>
    intro i N acc hd hi hN ha
    obtain ⟨N, rfl⟩ := pos_fuel (show 0 < N by omega)
    obtain ⟨hc, hx⟩ := hI i hi
    rw [i_BestBreaks_l3, decide_eq_true (by omega : (i : Int) < (ws.length : Int)), andO_true, gI_idx (l := X) (i := i) (by omega), Option.bind_some, Option.bind_some, hx]
    by_cases hf : PW ws ws.length - PW ws i - 1 ≤ W
    · obtain ⟨c1, c2⟩ := hc.fit hf
      rw [c2, decide_eq_false (by omega), cond_false]
      exact ⟨[], ⟨hi, hf⟩, by simp only [bd]; omega, by simp [toI]⟩
    · obtain ⟨c1, c2, c3, c4, _⟩ := hc.no hf
      rw [decide_eq_true (by omega), cond_true, Option.bind_some, app_some _ _ (by unfold LIM; simp; omega), Option.bind_some, Option.bind_some]
      obtain ⟨bs, b1, b2, b3⟩ := ih (ws.length - gN X i) (by omega) (gN X i) N (acc ++ [(gN X i : Int)]) (by omega) c2 (by omega) (by simp; omega)
      refine ⟨gN X i :: bs, ⟨c1, c2, c3, b1⟩, by simp only [bd]; omega, ?_⟩
      rw [b3]
      simp [toI]
theorem best_ok {ws : List Str} (h : TW ws) (W : Int) (h1 : 1 ≤ W) (h2 : W ≤ 80) (hf : ∀ x ∈ ws, (x.length : Int) ≤ W) (hne : 0 < ws.length) (N : Nat) (hN : 1000 < N) : ∃ bs c, i_BestBreaks N ws W = some (toI bs, c, 0) ∧ Pth (PW ws) W ws.length 0 bs ∧ bd (PW ws) W 0 bs = c ∧ ∀ bs', Pth (PW ws) W ws.length 0 bs' → c ≤ bd (PW ws) W 0 bs' := by
  have hl := h.1
  have hm : mk ((ws.length + 1 : Nat) : Int) (0 : Int) = some (List.replicate (ws.length + 1) 0) := mk_some _ 0 (by unfold LIM; omega)
  unfold i_BestBreaks
  rw [(vt_ok h W h1 h2 N (by omega)).1, fits_of hf, Option.bind_some, Bool.not_true, cond_false, w64_nat ws.length (by omega), hm, Option.bind_some, Option.bind_some, withK_n, w64_id (x := (ws.length : Int) - 1) (by omega) (by omega)]
  refine bb_l1 h W h1 h2 hf _ (fun o => ∃ bs c, o = some (toI bs, c, 0) ∧ Pth (PW ws) W ws.length 0 bs ∧ bd (PW ws) W 0 bs = c ∧ ∀ bs', Pth (PW ws) W ws.length 0 bs' → c ≤ bd (PW ws) W 0 bs') (fun X Y hX hY hI => ?_) ws.length N _ _ (Nat.le_refl _) (by omega) (by simp) (by simp) (fun i hi => ?_) fun i a1 a2 => by omega
  · obtain ⟨bs, b1, b2, b3⟩ := bb_l3 h W X Y hX hI (fun l78 => (idx Y 0).bind fun e99 => some (l78, e99, (0 : Int))) ws.length 0 N [] (by omega) hne (by omega) (Nat.le_refl _)
    rw [show ((0 : Nat) : Int) = 0 from rfl] at b3
    have e0 := gI_idx (l := Y) (i := 0) (by omega)
    rw [show ((0 : Nat) : Int) = 0 from rfl] at e0
    refine ⟨bs, gI Y 0, ?_, b1, b2, fun bs' hb => Cst.le (fun i hi => (hI i hi).1) bs' 0 hb⟩
    rw [withK_n, b3, e0, Option.bind_some]
    rfl
  · unfold gI
    rw [List.getElem?_replicate, if_pos (by omega)]; rfl
end Go.Proofs.Ytlmpbacboapkaaa
