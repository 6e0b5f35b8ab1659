/-
  Plain lemmas on these functions. No conditions but those that each states.
-/
import Derived.Test.YthkckgiicchpnaaFnCarriageLinesP9
namespace Go.Proofs.Ythkckgiicchpnaa
set_option linter.unusedVariables false
set_option linter.unusedSimpArgs false
/-! Places with several letters. -/
def cnt (l : List Struck) (x : Int) : Nat := (l.filter fun e => e.place == x).length
theorem cnt_snoc (l : List Struck) (e : Struck) (x : Int) : cnt (l ++ [e]) x = cnt l x + (if e.place = x then 1 else 0) := by
  unfold cnt
  rw [List.filter_append, List.length_append]
  by_cases h : e.place = x
  · simp [h]
  · have : (e.place == x) = false := by simpa using h
    simp [this, h]
theorem cnt_take (l : List Struck) (i : Nat) (h : i < l.length) (x : Int) : cnt (l.take (i + 1)) x = cnt (l.take i) x + (if l[i].place = x then 1 else 0) := by
  rw [List.take_succ_eq_append_getElem h, cnt_snoc]
theorem cnt_mono (l : List Struck) (x : Int) (i : Nat) : ∀ d, cnt (l.take i) x ≤ cnt (l.take (i + d)) x
  | 0 => Nat.le_refl _
  | d + 1 => by
    refine Nat.le_trans (cnt_mono l x i d) ?_
    by_cases h : i + d < l.length
    · rw [show i + (d + 1) = i + d + 1 by omega, cnt_take l (i + d) h]; omega
    · rw [List.take_of_length_le (by omega), List.take_of_length_le (by omega)]; exact Nat.le_refl _
theorem cnt_pos (l : List Struck) (j : Nat) (h : j < l.length) (i : Nat) (hji : j < i) : 1 ≤ cnt (l.take i) l[j].place := by
  have h1 := cnt_take l j h l[j].place
  have h2 := cnt_mono l l[j].place (j + 1) (i - (j + 1))
  rw [show j + 1 + (i - (j + 1)) = i by omega] at h2
  rw [if_pos rfl] at h1
  omega
theorem cnt_two (l : List Struck) (j i : Nat) (hi : i < l.length) (hji : j < i) (he : l[j].place = l[i].place) : 1 < cnt l l[i].place := by
  have h1 := cnt_pos l j (by omega) i hji
  have h2 := cnt_take l i hi l[i].place
  have h3 := cnt_mono l l[i].place (i + 1) (l.length - (i + 1))
  rw [show i + 1 + (l.length - (i + 1)) = l.length by omega, List.take_length] at h3
  rw [if_pos rfl] at h2
  rw [he] at h1
  omega
theorem cnt_ex (l : List Struck) (x : Int) : ∀ i, i ≤ l.length → 1 ≤ cnt (l.take i) x → ∃ j, ∃ h : j < l.length, j < i ∧ l[j].place = x
  | 0, _, h => by simp [cnt] at h
  | i + 1, hi, h => by
    rw [cnt_take l i hi] at h
    by_cases e : l[i].place = x
    · exact ⟨i, hi, by omega, e⟩
    · rw [if_neg e] at h
      obtain ⟨j, hj, h1, h2⟩ := cnt_ex l x i (by omega) h
      exact ⟨j, hj, by omega, h2⟩
structure OvS (l : List Struck) (k : Nat) (i : Nat) (out : List Int) : Prop where
  sorted : out.Pairwise (· < ·)
  mem : ∀ x, x ∈ out ↔ 1 < cnt (l.take i) x ∨ (1 ≤ cnt (l.take k) x ∧ ∃ h : i < l.length, l[i].place = x)
def rng (l : List Struck) : Prop := ∀ i, ∀ h : i < l.length, 0 ≤ l[i].place ∧ l[i].place ≤ 300
theorem OvS.len {l : List Struck} {k i : Nat} {out : List Int} (h : OvS l k i out) (hr : rng l) (hi : i ≤ l.length) (hk : k ≤ l.length) : out.length ≤ 301 := by
  rcases sorted_len 300 out 0 h.sorted (fun x hx => by
    rcases (h.mem x).1 hx with h1 | ⟨_, h1, h2⟩
    · obtain ⟨j, hj, _, e⟩ := cnt_ex l x i hi (by omega)
      have := hr j hj; omega
    · have := hr i h1; omega) with e | e
  · subst e; simp
  · omega
theorem ov_l2 (l : List Struck) (hl : l.length ≤ 200) (hr : rng l) (kj : List Int → Option (List Int × Int)) (i : Nat) (hi : i < l.length) : ∀ (n k N : Nat) (out : List Int), k + n = i → n + 400 < N → OvS l k i out →
    ∃ out', s_OvertypedPlaces_l2 kj l (i : Int) N out (k : Int) = kj out' ∧ OvS l i i out' := by
  intro n
  induction n with
  | zero =>
    intro k N out h1 h2 h3
    obtain ⟨N, rfl⟩ := pos_fuel (show 0 < N by omega)
    obtain rfl : k = i := by omega
    have hn : ¬ ((k : Int) < (k : Int)) := by omega
    exact ⟨out, by simp only [s_OvertypedPlaces_l2, hn, decide_false, cond_false], h3⟩
  | succ n ih =>
    intro k N out h1 h2 h3
    obtain ⟨N, rfl⟩ := pos_fuel (show 0 < N by omega)
    have hn : (k : Int) < (i : Int) := by omega
    have hkl : k < l.length := by omega
    have hlen := h3.len hr (by omega) (by omega)
    simp only [s_OvertypedPlaces_l2, hn, decide_true, cond_true, withK_eq, idx_lt l k hkl, idx_lt l i hi, Option.bind_some, w64_nat k (by omega)]
    by_cases he : l[k].place = l[i].place
    · have hb : (l[k].place == l[i].place) = true := by simpa using he
      obtain ⟨out', e, h4⟩ := ih (k + 1) N (putR l[i].place out) (by omega) (by omega) ⟨putR_sorted _ _ h3.sorted, fun x => by
        rw [mem_putR, h3.mem, cnt_take l k hkl]
        constructor
        · rintro (e | h | ⟨h, h5, e⟩)
          · right; subst e; rw [if_pos he]; exact ⟨by omega, hi, rfl⟩
          · exact .inl h
          · right; exact ⟨by omega, h5, e⟩
        · rintro (h | ⟨h, h5, e⟩)
          · exact .inr (.inl h)
          · exact .inl e.symm⟩
      refine ⟨out', ?_, h4⟩
      simp only [hb, cond_true, Put_ok N out l[i].place (by omega) (by omega), Option.bind_some, e]
    · have hb : (l[k].place == l[i].place) = false := by simpa using he
      obtain ⟨out', e, h4⟩ := ih (k + 1) N out (by omega) (by omega) ⟨h3.sorted, fun x => by
        rw [h3.mem, cnt_take l k hkl]
        constructor
        · rintro (h | ⟨h, h5, e⟩)
          · exact .inl h
          · right; exact ⟨by omega, h5, e⟩
        · rintro (h | ⟨h, h5, e⟩)
          · exact .inl h
          · right
            subst e
            rw [if_neg he] at h
            exact ⟨h, h5, rfl⟩⟩
      refine ⟨out', ?_, h4⟩
      simp only [hb, cond_false, e]
theorem ov_l1 (l : List Struck) (hl : l.length ≤ 200) (hr : rng l) (kj : List Int → Option (List Int × Int)) : ∀ (n i N : Nat) (out : List Int), i + n = l.length → n + 700 < N → out.Pairwise (· < ·) → (∀ x, x ∈ out ↔ 1 < cnt (l.take i) x) →
    ∃ out', s_OvertypedPlaces_l1 kj l N out (i : Int) = kj out' ∧ out'.Pairwise (· < ·) ∧ ∀ x, x ∈ out' ↔ 1 < cnt l x := by
  intro n
  induction n with
  | zero =>
    intro i N out h1 h2 h3 h4
    obtain ⟨N, rfl⟩ := pos_fuel (show 0 < N by omega)
    have hn : ¬ ((i : Int) < (l.length : Int)) := by omega
    refine ⟨out, by simp only [s_OvertypedPlaces_l1, hn, decide_false, cond_false], h3, ?_⟩
    rw [List.take_of_length_le (by omega)] at h4
    exact h4
  | succ n ih =>
    intro i N out h1 h2 h3 h4
    obtain ⟨N, rfl⟩ := pos_fuel (show 0 < N by omega)
    have hn : (i : Int) < (l.length : Int) := by omega
    have hil : i < l.length := by omega
    obtain ⟨o2, e2, g1⟩ := ov_l2 l hl hr (fun l16 => s_OvertypedPlaces_l1 kj l N l16 (w64 ((i : Int) + 1))) i hil i 0 N out (by omega) (by omega) ⟨h3, fun x => by
      rw [h4]
      constructor
      · exact .inl
      · rintro (h | ⟨h, _⟩)
        · exact h
        · simp [cnt] at h⟩
    rw [show ((0 : Nat) : Int) = 0 from rfl] at e2
    obtain ⟨o3, e3, g2⟩ := ih (i + 1) N o2 (by omega) (by omega) g1.sorted (fun x => by
      rw [g1.mem, cnt_take l i hil]
      constructor
      · rintro (h | ⟨h, _, e⟩)
        · omega
        · rw [if_pos e]; omega
      · intro h
        by_cases e : l[i].place = x
        · rw [if_pos e] at h
          by_cases h5 : 1 < cnt (l.take i) x
          · exact .inl h5
          · exact .inr ⟨by omega, hil, e⟩
        · rw [if_neg e] at h; exact .inl h)
    refine ⟨o3, ?_, g2⟩
    simp only [s_OvertypedPlaces_l1, hn, decide_true, cond_true, withK_eq]
    rw [e2, w64_nat i (by omega), e3]
theorem ovi_l1 (l : List Struck) (hl : l.length ≤ 200) (hr : rng l) (kj : List Int → Option (List Int × Int)) : ∀ (n i N : Nat) (a : List Int), i + n = l.length → n < N → a.length = 301 → (∀ p : Nat, p < 301 → a[p]? = some ((cnt (l.take i) (p : Int) : Nat) : Int)) →
    ∃ a', i_OvertypedPlaces_l1 kj l N a (i : Int) = kj a' ∧ a'.length = 301 ∧ ∀ p : Nat, p < 301 → a'[p]? = some ((cnt l (p : Int) : Nat) : Int) := by
  intro n
  induction n with
  | zero =>
    intro i N a h1 h2 h3 h4
    obtain ⟨N, rfl⟩ := pos_fuel (show 0 < N by omega)
    have hn : ¬ ((i : Int) < (l.length : Int)) := by omega
    rw [List.take_of_length_le (by omega)] at h4
    exact ⟨a, by simp only [i_OvertypedPlaces_l1, hn, decide_false, cond_false], h3, h4⟩
  | succ n ih =>
    intro i N a h1 h2 h3 h4
    obtain ⟨N, rfl⟩ := pos_fuel (show 0 < N by omega)
    have hn : (i : Int) < (l.length : Int) := by omega
    have hil : i < l.length := by omega
    have hp := hr i hil
    have hlt : l[i].place.toNat < 301 := by omega
    have hix : idx a l[i].place = some ((cnt (l.take i) l[i].place : Nat) : Int) := by
      have := h4 l[i].place.toNat hlt
      rw [show ((l[i].place.toNat : Nat) : Int) = l[i].place by omega] at this
      unfold idx
      rw [if_pos hp.1, this]
    have hc : cnt (l.take i) l[i].place ≤ 200 := by
      unfold cnt
      have := List.length_filter_le (fun e : Struck => e.place == l[i].place) (l.take i)
      rw [List.length_take] at this
      omega
    obtain ⟨a', e, g1, g2⟩ := ih (i + 1) N (a.set l[i].place.toNat ((cnt (l.take i) l[i].place + 1 : Nat) : Int)) (by omega) (by omega) (by simpa using h3) (fun p hp2 => by
      rw [cnt_take l i hil]
      by_cases e : l[i].place.toNat = p
      · subst e
        rw [List.getElem?_set_self (by omega), show ((l[i].place.toNat : Nat) : Int) = l[i].place by omega, if_pos rfl]
      · rw [List.getElem?_set_ne e, h4 p hp2, if_neg (by omega)]; rfl)
    refine ⟨a', ?_, g1, g2⟩
    simp only [i_OvertypedPlaces_l1, hn, decide_true, cond_true, idx_lt l i hil, Option.bind_some, hix, w64_nat (cnt (l.take i) l[i].place) (by omega), w64_nat i (by omega), e]
theorem ovi_l2 (kj : List Int → Option (List Int × Int)) (a : List Int) (ha : a.length = 301) : ∀ (n x N : Nat) (out : List Int), x + n = 301 → n < N → out.Pairwise (· < ·) → out.length ≤ x → (∀ y ∈ out, y < (x : Int)) → (∀ y, y ∈ out ↔ ∃ p : Nat, p < x ∧ y = (p : Int) ∧ ∃ v, a[p]? = some v ∧ v > 1) →
    ∃ out', i_OvertypedPlaces_l2 kj a N out (x : Int) = kj out' ∧ out'.Pairwise (· < ·) ∧ out'.length ≤ 301 ∧ ∀ y, y ∈ out' ↔ ∃ p : Nat, p < 301 ∧ y = (p : Int) ∧ ∃ v, a[p]? = some v ∧ v > 1 := by
  intro n
  induction n with
  | zero =>
    intro x N out h1 h2 h3 h4 h5 h6
    obtain ⟨N, rfl⟩ := pos_fuel (show 0 < N by omega)
    obtain rfl : x = 301 := by omega
    exact ⟨out, by simp [i_OvertypedPlaces_l2], h3, h4, h6⟩
  | succ n ih =>
    intro x N out h1 h2 h3 h4 h5 h6
    obtain ⟨N, rfl⟩ := pos_fuel (show 0 < N by omega)
    have hn : (x : Int) < 301 := by omega
    have hxl : x < a.length := by omega
    have hix : idxA 301 a (x : Int) = some a[x] := by unfold idxA; rw [if_pos ha, idx_lt a x hxl]
    have hax : a[x]? = some a[x] := List.getElem?_eq_getElem hxl
    simp only [i_OvertypedPlaces_l2, hn, decide_true, cond_true, withK_eq, hix, Option.bind_some, w64_nat x (by omega)]
    by_cases h : a[x] > 1
    · obtain ⟨o, e, g⟩ := ih (x + 1) N (out ++ [(x : Int)]) (by omega) (by omega) (sorted_snoc h3 h5) (by simp; omega) (fun y hy => by
        rcases List.mem_append.1 hy with hy | hy
        · have := h5 y hy; omega
        · rw [List.mem_singleton.1 hy]; omega) (fun y => by
        rw [List.mem_append, h6, List.mem_singleton]
        constructor
        · rintro (⟨p, q1, q2, q3⟩ | rfl)
          · exact ⟨p, by omega, q2, q3⟩
          · exact ⟨x, by omega, rfl, _, hax, h⟩
        · rintro ⟨p, q1, q2, q3⟩
          by_cases e : p = x
          · subst e; exact .inr q2
          · exact .inl ⟨p, by omega, q2, q3⟩)
      refine ⟨o, ?_, g⟩
      simp only [h, decide_true, cond_true]
      rw [app_some _ _ (by unfold LIM; simp; omega), Option.bind_some, e]
    · obtain ⟨o, e, g⟩ := ih (x + 1) N out (by omega) (by omega) h3 (by omega) (fun y hy => by have := h5 y hy; omega) (fun y => by
        rw [h6]
        constructor
        · rintro ⟨p, q1, q2, q3⟩
          exact ⟨p, by omega, q2, q3⟩
        · rintro ⟨p, q1, q2, v, q3, q4⟩
          by_cases e : p = x
          · subst e; rw [hax] at q3; have := Option.some.inj q3; omega
          · exact ⟨p, by omega, q2, v, q3, q4⟩)
      refine ⟨o, ?_, g⟩
      simp only [h, decide_false, cond_false, e]
theorem Over_ok (N : Nat) (l : List Struck) (hl : l.length ≤ 1000) (hN : 3000 ≤ N) : ∃ r, i_OvertypedPlaces N l = some r ∧ s_OvertypedPlaces N l = some r ∧ r.1.length ≤ 301 ∧ (okS l = true → r.2 = 0 ∧ ∀ x, x ∈ r.1 ↔ 1 < cnt l x) := by
  cases hok : okS l with
  | false =>
    refine ⟨([], 1), ?_, ?_, by simp, fun h => by cases h⟩
    · unfold i_OvertypedPlaces; simp only [okS_i N l hl (by omega), hok, Option.bind_some, Bool.not_false, cond_true]
    · unfold s_OvertypedPlaces; simp only [okS_s N l hl (by omega), hok, Option.bind_some, Bool.not_false, cond_true]
  | true =>
    obtain ⟨h200, hf⟩ := okS_facts hok
    have hr : rng l := fun i h => ⟨(hf i h).1, (hf i h).2.1⟩
    obtain ⟨o1, e1, g1, g2⟩ := ov_l1 l h200 hr (fun l8 => some (l8, 0)) l.length 0 N [] (by omega) (by omega) (by simp) (fun x => by simp [cnt])
    obtain ⟨a, e2, g3, g4⟩ := ovi_l1 l h200 hr (fun l8 => i_OvertypedPlaces_l2 (fun l25 => some (l25, 0)) l8 N [] 0) l.length 0 N (List.replicate 301 (0 : Int)) (by omega) (by omega) List.length_replicate (fun p hp => by rw [List.getElem?_replicate, if_pos hp]; rfl)
    obtain ⟨o2, e3, g5, g6, g7⟩ := ovi_l2 (fun l25 => some (l25, 0)) a g3 301 0 N [] (by omega) (by omega) (by simp) (by simp) (by simp) (by simp)
    rw [show ((0 : Nat) : Int) = 0 from rfl] at e1 e2 e3
    have hm : ∀ x, x ∈ o2 ↔ 1 < cnt l x := fun x => by
      rw [g7]
      constructor
      · rintro ⟨p, q1, rfl, v, q3, q4⟩
        rw [g4 p q1] at q3
        have := Option.some.inj q3
        omega
      · intro h
        obtain ⟨j, hj, _, e⟩ := cnt_ex l x l.length (Nat.le_refl _) (by rw [List.take_length]; omega)
        have := hr j hj
        refine ⟨x.toNat, by omega, by omega, _, g4 x.toNat (by omega), ?_⟩
        rw [show ((x.toNat : Nat) : Int) = x by omega]
        omega
    have heq : o1 = o2 := sorted_ext o1 o2 g1 g5 (fun x => by rw [g2, hm])
    subst heq
    refine ⟨(o1, 0), ?_, ?_, g6, fun _ => ⟨rfl, g2⟩⟩
    · unfold i_OvertypedPlaces; simp only [okS_i N l hl (by omega), hok, Option.bind_some, Bool.not_true, cond_false, withK_eq, e2, e3]
    · unfold s_OvertypedPlaces; simp only [okS_s N l hl (by omega), hok, Option.bind_some, Bool.not_true, cond_false, withK_eq, e1]
end Go.Proofs.Ythkckgiicchpnaa
