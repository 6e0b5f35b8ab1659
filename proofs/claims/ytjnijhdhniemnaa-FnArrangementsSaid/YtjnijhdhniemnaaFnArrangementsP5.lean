/-
  Plain lemmas on these functions. No conditions but those that each states.
-/
import Derived.Test.YtjnijhdhniemnaaFnArrangementsP4
namespace Go.Proofs.Ytjnijhdhniemnaa
set_option linter.unusedVariables false
set_option linter.unusedSimpArgs false
/-! Swaps, and the best of them. -/
def Df (p : List Int) : Prop := ∀ i j, ∀ hi : i < p.length, ∀ hj : j < p.length, p[i] = p[j] → i = j
def sw (p : List Int) (i k : Nat) : List Int := (p.set i (p[k]?.getD 0)).set k (p[i]?.getD 0)
theorem sw_len (p : List Int) (i k : Nat) : (sw p i k).length = p.length := by simp [sw]
theorem sw_get (p : List Int) (i k j : Nat) (hi : i < p.length) (hk : k < p.length) (hj : j < p.length) : (sw p i k)[j]'(by rw [sw_len]; exact hj) = if j = k then p[i] else if j = i then p[k] else p[j] := by
  have h : (sw p i k)[j]? = some (if j = k then p[i] else if j = i then p[k] else p[j]) := by
    unfold sw
    rw [List.getElem?_eq_getElem hi, List.getElem?_eq_getElem hk]
    simp only [Option.getD_some, List.getElem?_set, List.length_set]
    by_cases h1 : k = j
    · subst h1; simp [hk]
    · by_cases h2 : i = j
      · subst h2; simp [h1, Ne.symm h1, hi]
      · simp [h1, h2, Ne.symm h1, Ne.symm h2, hj]
  rw [List.getElem?_eq_getElem (by rw [sw_len]; exact hj)] at h
  exact Option.some.inj h
/-- a good arrangement of n -/
def AG (b : Basket) (n : Nat) (p : List Int) : Prop := p.length = n ∧ InB b p ∧ Df p
theorem sw_ag {b : Basket} {n : Nat} {p : List Int} (h : AG b n p) (i k : Nat) (hi : i < n) (hk : k < n) : AG b n (sw p i k) := by
  obtain ⟨h1, h2, h3⟩ := h
  have gi : i < p.length := by omega
  have gk : k < p.length := by omega
  refine ⟨by rw [sw_len]; exact h1, fun x hx => ?_, fun u v hu hv e => ?_⟩
  · obtain ⟨j, hj, rfl⟩ := List.getElem_of_mem hx
    rw [sw_len] at hj
    rw [sw_get p i k j gi gk hj]
    split
    · exact h2 _ (List.getElem_mem gi)
    · split
      · exact h2 _ (List.getElem_mem gk)
      · exact h2 _ (List.getElem_mem hj)
  · rw [sw_len] at hu hv
    rw [sw_get p i k u gi gk hu, sw_get p i k v gi gk hv] at e
    by_cases a1 : u = k <;> by_cases a2 : u = i <;> by_cases b1 : v = k <;> by_cases b2 : v = i <;> simp only [a1, a2, b1, b2, if_true, if_false] at e <;> first | omega | (have := h3 _ _ _ _ e; omega) | skip
    all_goals
      (repeat' split at e) <;> (first | omega | (have := h3 _ _ _ _ e; omega))
theorem sw_sw (p : List Int) (i k : Nat) (hi : i < p.length) (hk : k < p.length) : sw (sw p i k) i k = p := by
  refine List.ext_getElem (by rw [sw_len, sw_len]) fun j h1 h2 => ?_
  have hj : j < p.length := h2
  rw [sw_get (sw p i k) i k j (by rw [sw_len]; exact hi) (by rw [sw_len]; exact hk) (by rw [sw_len]; exact hj), sw_get p i k i hi hk hi, sw_get p i k k hi hk hk, sw_get p i k j hi hk hj]
  by_cases a : j = k
  · subst a
    by_cases c : i = j
    · subst c; simp
    · simp [c]
  · by_cases c : j = i
    · subst c; simp [a]
    · simp [a, c]
theorem swapped_ok (p : List Int) (hp : p.length ≤ 100) (i k : Nat) (hi : i < p.length) (hk : k < p.length) : i_swapped p (i : Int) (k : Int) = some (sw p i k) := by
  unfold i_swapped sw
  rw [app_some _ _ (by unfold LIM; simp; omega), Option.bind_some, List.nil_append, idx_lt p k hk, Option.bind_some, idx_lt p i hi, Option.bind_some, Option.bind_some, Int.toNat_natCast, Int.toNat_natCast, idx_lt _ k (by simpa using hk), Option.bind_some, List.getElem?_eq_getElem hi, List.getElem?_eq_getElem hk]
  rfl
/-- the state of the search -/
def BS (b : Basket) (P : List (List Int)) (p : List Int) (c0 least first second : Int) (found : Bool) : Prop :=
  (found = false ∧ least = c0) ∨ (found = true ∧ ∃ i k : Nat, first = i ∧ second = k ∧ i < k ∧ k < p.length ∧ least = tot b P (sw p i k) ∧ least < c0)
theorem bs_l2 (b : Basket) (hb : BG b) (n : Nat) (P : List (List Int)) (hP : PG n P) (p : List Int) (hp : AG b n p) (c0 : Int) (x : Nat) (hx : x < n) : ∀ (q k : Nat) (l f s : Int) (fd : Bool), n ≤ k + q → x < k → BS b P p c0 l f s fd → ∃ l' f' s' fd', BS b P p c0 l' f' s' fd' ∧ ∀ (N : Nat) (kj : Int → Int → Int → Bool → Option (Int × Int × Bool)), q + 60 < N → k ≤ 100 → i_Basket_bestSwap_l2 kj b P p (x : Int) N l f s fd (k : Int) = kj l' f' s' fd' := by
  have h5 := hP.2.2.1
  have hl := hp.1
  intro q
  induction q with
  | zero =>
    intro k l f s fd hk hxk h
    refine ⟨l, f, s, fd, h, fun N kj hN hk1 => ?_⟩
    obtain ⟨N, rfl⟩ := pos_fuel (show 0 < N by omega)
    have hz : ¬ (k : Int) < (p.length : Int) := by omega
    simp only [i_Basket_bestSwap_l2, hz, decide_false, cond_false]
  | succ q ih =>
    intro k l f s fd hk hxk h
    by_cases hlt : k < n
    · have hag := sw_ag hp x k hx hlt
      have hz : (k : Int) < (p.length : Int) := by omega
      by_cases hc : tot b P (sw p x k) < l
      · have hl0 : l ≤ c0 := by rcases h with ⟨_, e⟩ | ⟨_, i, k', _, _, _, _, _, e⟩ <;> omega
        obtain ⟨l', f', s', fd', g1, g2⟩ := ih (k + 1) (tot b P (sw p x k)) x k true (by omega) (by omega) (.inr ⟨rfl, x, k, rfl, rfl, hxk, by omega, rfl, by omega⟩)
        refine ⟨l', f', s', fd', g1, fun N kj hN hk1 => ?_⟩
        obtain ⟨N, rfl⟩ := pos_fuel (show 0 < N by omega)
        simp only [i_Basket_bestSwap_l2, hz, decide_true, cond_true, withK_eq]
        rw [swapped_ok p (by omega) x k (by omega) (by omega), Option.bind_some, (cost_ok b hb n P hP _ hag.1 hag.2.1 N (by omega)).1, Option.bind_some, w64_nat k (by omega)]
        simp only [hc, decide_true, cond_true]
        exact g2 N kj (by omega) (by omega)
      · obtain ⟨l', f', s', fd', g1, g2⟩ := ih (k + 1) l f s fd (by omega) (by omega) h
        refine ⟨l', f', s', fd', g1, fun N kj hN hk1 => ?_⟩
        obtain ⟨N, rfl⟩ := pos_fuel (show 0 < N by omega)
        simp only [i_Basket_bestSwap_l2, hz, decide_true, cond_true, withK_eq]
        rw [swapped_ok p (by omega) x k (by omega) (by omega), Option.bind_some, (cost_ok b hb n P hP _ hag.1 hag.2.1 N (by omega)).1, Option.bind_some, w64_nat k (by omega)]
        simp only [hc, decide_false, cond_false]
        exact g2 N kj (by omega) (by omega)
    · refine ⟨l, f, s, fd, h, fun N kj hN hk1 => ?_⟩
      obtain ⟨N, rfl⟩ := pos_fuel (show 0 < N by omega)
      have hz : ¬ (k : Int) < (p.length : Int) := by omega
      simp only [i_Basket_bestSwap_l2, hz, decide_false, cond_false]
theorem bs_l1 (b : Basket) (hb : BG b) (n : Nat) (P : List (List Int)) (hP : PG n P) (p : List Int) (hp : AG b n p) (c0 : Int) : ∀ (q x : Nat) (l f s : Int) (fd : Bool), x + q = n → BS b P p c0 l f s fd → ∃ l' f' s' fd', BS b P p c0 l' f' s' fd' ∧ ∀ (N : Nat) (kj : Int → Int → Bool → Option (Int × Int × Bool)), q + 80 < N → i_Basket_bestSwap_l1 kj b P p N l f s fd (x : Int) = kj f' s' fd' := by
  have h5 := hP.2.2.1
  have hl := hp.1
  intro q
  induction q with
  | zero =>
    intro x l f s fd hx h
    refine ⟨l, f, s, fd, h, fun N kj hN => ?_⟩
    obtain ⟨N, rfl⟩ := pos_fuel (show 0 < N by omega)
    have hz : ¬ (x : Int) < (p.length : Int) := by omega
    simp only [i_Basket_bestSwap_l1, hz, decide_false, cond_false]
  | succ q ih =>
    intro x l f s fd hx h
    obtain ⟨l1, f1, s1, fd1, g1, g2⟩ := bs_l2 b hb n P hP p hp c0 x (by omega) 5 (x + 1) l f s fd (by omega) (by omega) h
    obtain ⟨l2, f2, s2, fd2, g3, g4⟩ := ih (x + 1) l1 f1 s1 fd1 (by omega) g1
    refine ⟨l2, f2, s2, fd2, g3, fun N kj hN => ?_⟩
    obtain ⟨N, rfl⟩ := pos_fuel (show 0 < N by omega)
    have hz : (x : Int) < (p.length : Int) := by omega
    simp only [i_Basket_bestSwap_l1, hz, decide_true, cond_true, withK_eq, w64_nat x (show x < 9223372036854775807 by omega)]
    rw [g2 N _ (by omega) (by omega)]
    exact g4 N kj (by omega)
theorem bs_ok (b : Basket) (hb : BG b) (n : Nat) (P : List (List Int)) (hP : PG n P) (p : List Int) (hp : AG b n p) : ∃ l f s fd, BS b P p (tot b P p) l f s fd ∧ ∀ N : Nat, 200 < N → i_Basket_bestSwap N b P p = some (f, s, fd) := by
  have h5 := hP.2.2.1
  obtain ⟨l, f, s, fd, h1, h2⟩ := bs_l1 b hb n P hP p hp (tot b P p) n 0 (tot b P p) 0 0 false (by omega) (.inl ⟨rfl, rfl⟩)
  refine ⟨l, f, s, fd, h1, fun N hN => ?_⟩
  unfold i_Basket_bestSwap
  rw [(cost_ok b hb n P hP p hp.1 hp.2.1 N (by omega)).1, Option.bind_some]
  simp only [withK_eq]
  exact h2 N _ (by omega)
/-- improving -/
theorem imp_l1 (b : Basket) (hb : BG b) (n : Nat) (P : List (List Int)) (hP : PG n P) : ∀ (c : Nat) (p : List Int), AG b n p → tot b P p ≤ c → ∃ p', AG b n p' ∧ tot b P p' ≤ tot b P p ∧ (∃ f s, ∀ N : Nat, 200 < N → i_Basket_bestSwap N b P p' = some (f, s, false)) ∧ (∀ N : Nat, c + 300 < N → i_ImproveArrange_l1 b P N p = some (p', 0)) ∧ (∀ f s, i_Basket_bestSwap 300 b P p = some (f, s, false) → p' = p) ∧ (∀ i k : Nat, i_Basket_bestSwap 300 b P p = some ((i : Int), (k : Int), true) → tot b P p' ≤ tot b P (sw p i k)) := by
  have h5 := hP.2.2.1
  intro c
  induction c with
  | zero =>
    intro p hp hc
    obtain ⟨l, f, s, fd, h1, h2⟩ := bs_ok b hb n P hP p hp
    rcases h1 with ⟨rfl, _⟩ | ⟨_, i, k, _, _, hik, hk, hl, hlt⟩
    · refine ⟨p, hp, Int.le_refl _, ⟨f, s, h2⟩, fun N hN => ?_, fun _ _ _ => rfl, fun i k h => ?_⟩
      · obtain ⟨N, rfl⟩ := pos_fuel (show 0 < N by omega)
        simp only [i_ImproveArrange_l1]
        rw [h2 N (by omega)]
        rfl
      · rw [h2 300 (by omega)] at h; simp at h
    · have hag := sw_ag hp i k (by have := hp.1; omega) (by have := hp.1; omega)
      have := (cost_ok b hb n P hP _ hag.1 hag.2.1 300 (by omega)).2.1
      omega
  | succ c ih =>
    intro p hp hc
    obtain ⟨l, f, s, fd, h1, h2⟩ := bs_ok b hb n P hP p hp
    rcases h1 with ⟨rfl, _⟩ | ⟨rfl, i, k, rfl, rfl, hik, hk, hl, hlt⟩
    · refine ⟨p, hp, Int.le_refl _, ⟨f, s, h2⟩, fun N hN => ?_, fun _ _ _ => rfl, fun i k h => ?_⟩
      · obtain ⟨N, rfl⟩ := pos_fuel (show 0 < N by omega)
        simp only [i_ImproveArrange_l1]
        rw [h2 N (by omega)]
        rfl
      · rw [h2 300 (by omega)] at h; simp at h
    · have hn := hp.1
      have hag := sw_ag hp i k (by omega) (by omega)
      obtain ⟨p', a1, a2, a3, a4, _, _⟩ := ih (sw p i k) hag (by omega)
      refine ⟨p', a1, by omega, a3, fun N hN => ?_, fun f s h => ?_, fun i' k' h => ?_⟩
      · obtain ⟨N, rfl⟩ := pos_fuel (show 0 < N by omega)
        simp only [i_ImproveArrange_l1]
        rw [h2 N (by omega), Option.bind_some]
        simp only [Bool.not_true, cond_false]
        rw [idx_lt p k hk, Option.bind_some, idx_lt p i (by omega), Option.bind_some, Option.bind_some, Int.toNat_natCast, Int.toNat_natCast, idx_lt _ k (by simpa using hk), Option.bind_some]
        have e : (p.set i p[k]).set k p[i] = sw p i k := by unfold sw; rw [List.getElem?_eq_getElem hk, List.getElem?_eq_getElem (show i < p.length by omega)]; rfl
        rw [e]
        exact a4 N (by omega)
      · rw [h2 300 (by omega)] at h; simp at h
      · rw [h2 300 (by omega)] at h
        simp at h
        obtain ⟨rfl, rfl⟩ : i = i' ∧ k = k' := ⟨by omega, by omega⟩
        exact a2
end Go.Proofs.Ytjnijhdhniemnaa
