/-
  Plain lemmas on these functions. No conditions but those that each states.
-/
import Derived.Test.YthkckgiicchpnaaFnCarriageLinesP10
namespace Go.Proofs.Ythkckgiicchpnaa
set_option linter.unusedVariables false
set_option linter.unusedSimpArgs false
/-! A line. -/
theorem filter_set_len (ch : UInt8) (hch : ch ≠ 32) : ∀ (l : Str) (p : Nat), l[p]? = some 32 → ((l.set p ch).filter (fun c => c != 32)).length = (l.filter (fun c => c != 32)).length + 1
  | [], p, h => by simp at h
  | x :: l, 0, h => by
    have : x = 32 := by simpa using h
    subst this
    have hb : (ch != 32) = true := by simpa using hch
    simp [hb]
  | x :: l, p + 1, h => by
    have h' : l[p]? = some 32 := by simpa using h
    have := filter_set_len ch hch l p h'
    simp only [List.set_cons_succ, List.filter_cons]
    split
    · simp only [List.length_cons, this]
    · exact this
/-- the half of the way -/
def atN (c : Carriage) (e : Struck) : Nat := ((e.place - c.left) / 2).toNat
def evn (c : Carriage) (e : Struck) : Prop := 0 ≤ e.place - c.left ∧ (e.place - c.left) % 2 = 0
structure LnI (c : Carriage) (l : List Struck) (k : Nat) (s : Str) : Prop where
  even : ∀ j, ∀ h : j < l.length, j < k → evn c l[j]
  here : ∀ j, ∀ h : j < l.length, j < k → ∃ ch, l[j].letter = [ch] ∧ ch ≠ 32 ∧ s[atN c l[j]]? = some ch
  only : ∀ (q : Nat) (ch : UInt8), s[q]? = some ch → ch ≠ 32 → ∃ j, ∃ h : j < l.length, j < k ∧ q = atN c l[j]
  many : (s.filter (fun c => c != 32)).length = k
  len : s.length ≤ 151
  inj : ∀ i j, ∀ hi : i < l.length, ∀ hj : j < l.length, j < i → i < k → atN c l[i] ≠ atN c l[j]
theorem pad_l2 (kj : Str → Option (Str × Int)) (c : Carriage) (e : Struck) (hc : w64 (Int.tdiv (w64 (e.place - c.left)) 2) = (atN c e : Int)) (ha : atN c e ≤ 150) : ∀ (n N : Nat) (l : Str), n = atN c e + 1 - l.length → n < N → l.length ≤ 151 → i_LineOf_l2 kj c e N l = kj (l ++ List.replicate n 32) := by
  intro n
  induction n with
  | zero =>
    intro N l h1 h2 h3
    obtain ⟨N, rfl⟩ := pos_fuel h2
    have hn : ¬ ((l.length : Int) ≤ (atN c e : Int)) := by omega
    simp only [i_LineOf_l2, hc, hn, decide_false, cond_false, List.replicate_zero, List.append_nil]
  | succ n ih =>
    intro N l h1 h2 h3
    obtain ⟨N, rfl⟩ := pos_fuel h2
    have hn : (l.length : Int) ≤ (atN c e : Int) := by omega
    simp only [i_LineOf_l2, hc, hn, decide_true, cond_true]
    rw [app_some _ _ (by unfold LIM; simp; omega), Option.bind_some, ih N _ (by simp; omega) (by omega) (by simp; omega), List.append_assoc]
    rfl
/-- what a line can be -/
def LnR (c : Carriage) (l : List Struck) (r : Str × Int) : Prop :=
  r.2 = 8 ∨ (r.2 = 9 ∧ ∃ i j, ∃ hi : i < l.length, ∃ hj : j < l.length, j < i ∧ l[j].place = l[i].place) ∨ (r.2 = 0 ∧ LnI c l l.length r.1)
theorem line_l1 (c : Carriage) (l : List Struck) (hc : okC c = true) (hl : okS l = true) : ∀ (n k N : Nat) (s : Str), k + n = l.length → n + 200 ≤ N → LnI c l k s →
    ∃ r, i_LineOf_l1 (fun l15 => some (l15, 0)) c l N s (k : Int) = some r ∧ LnR c l r := by
  obtain ⟨c1, c2, c3, _⟩ := okC_facts hc
  obtain ⟨h200, hf⟩ := okS_facts hl
  intro n
  induction n with
  | zero =>
    intro k N s h1 h2 h3
    obtain ⟨N, rfl⟩ := pos_fuel (show 0 < N by omega)
    have hn : ¬ ((k : Int) < (l.length : Int)) := by omega
    obtain rfl : k = l.length := by omega
    exact ⟨(s, 0), by simp only [i_LineOf_l1, hn, decide_false, cond_false], .inr (.inr ⟨rfl, h3⟩)⟩
  | succ n ih =>
    intro k N s h1 h2 h3
    obtain ⟨N, rfl⟩ := pos_fuel (show 0 < N by omega)
    have hn : (k : Int) < (l.length : Int) := by omega
    have hk : k < l.length := by omega
    obtain ⟨p1, p2, p3⟩ := hf k hk
    obtain ⟨ch, l1, l2, _⟩ := isL_facts p3
    have e1 : w64 (l[k].place - c.left) = l[k].place - c.left := w64_id (by omega) (by omega)
    simp only [i_LineOf_l1, hn, decide_true, cond_true, withK_eq, idx_lt l k hk, Option.bind_some, e1, orO_some, w64_nat k (by omega)]
    by_cases hneg : l[k].place - c.left < 0
    · exact ⟨([], 8), by simp only [hneg, decide_true, Bool.true_or, cond_true], .inl rfl⟩
    · have em : Int.tmod (l[k].place - c.left) 2 = (l[k].place - c.left) % 2 := Int.tmod_eq_emod_of_nonneg (by omega)
      by_cases hev : (l[k].place - c.left) % 2 = 0
      · have hb : (Int.tmod (l[k].place - c.left) 2 != 0) = false := by rw [em, hev]; rfl
        have ed : w64 (Int.tdiv (w64 (l[k].place - c.left)) 2) = (atN c l[k] : Int) := by
          rw [e1, Int.tdiv_eq_ediv_of_nonneg (by omega), w64_id (by omega) (by omega)]
          unfold atN
          omega
        have ha : atN c l[k] ≤ 150 := by unfold atN; omega
        have ed' : w64 (Int.tdiv (l[k].place - c.left) 2) = (atN c l[k] : Int) := by rw [← ed, e1]
        have hpad := fun kj => pad_l2 kj c l[k] ed ha (atN c l[k] + 1 - s.length) N s rfl (by omega) h3.len
        have hlen : (s ++ List.replicate (atN c l[k] + 1 - s.length) (32 : UInt8)).length = max s.length (atN c l[k] + 1) := by simp; omega
        obtain ⟨s', hs'⟩ : ∃ s', s' = s ++ List.replicate (atN c l[k] + 1 - s.length) (32 : UInt8) := ⟨_, rfl⟩
        have hq : ∀ (q : Nat) (d : UInt8), s'[q]? = some d → s[q]? = some d ∨ d = 32 := fun q d h => by
          rw [hs'] at h
          by_cases hqs : q < s.length
          · rw [List.getElem?_append_left hqs] at h; exact .inl h
          · rw [List.getElem?_append_right (by omega), List.getElem?_replicate] at h
            split at h
            · exact .inr (Option.some.inj h).symm
            · cases h
        have hq2 : ∀ (q : Nat) (d : UInt8), s[q]? = some d → s'[q]? = some d := fun q d h => by
          rw [hs', List.getElem?_append_left (lt_of_some h)]; exact h
        have hlt : atN c l[k] < s'.length := by rw [hs', hlen]; omega
        have hfil : (s'.filter (fun c => c != 32)).length = k := by
          rw [hs', List.filter_append]
          have : (List.replicate (atN c l[k] + 1 - s.length) (32 : UInt8)).filter (fun c => c != 32) = [] := by simp
          rw [this, List.append_nil]; exact h3.many
        simp only [hneg, decide_false, hb, Bool.or_self, cond_false, hpad, ← hs', ed', idx_lt s' _ hlt, Option.bind_some]
        by_cases hbl : s'[atN c l[k]] = 32
        · have hb2 : (s'[atN c l[k]] != 32) = false := by simpa using hbl
          have hlet : idx l[k].letter 0 = some ch := by rw [l1]; rfl
          have hget : s'[atN c l[k]]? = some 32 := by rw [List.getElem?_eq_getElem hlt, hbl]
          simp only [hb2, cond_false, hlet, Option.bind_some, Int.toNat_natCast]
          have hnew : ∀ j, ∀ hj : j < l.length, j < k → atN c l[k] ≠ atN c l[j] := fun j hj hjk e => by
            obtain ⟨d, q1, q2, q3⟩ := h3.here j hj hjk
            have := hq2 _ _ q3
            rw [← e, hget] at this
            exact q2 (Option.some.inj this).symm
          refine ih (k + 1) N (s'.set (atN c l[k]) ch) (by omega) (by omega) ⟨fun j hj hjk => ?_, fun j hj hjk => ?_, fun q d h4 h5 => ?_, ?_, ?_, fun i j hi hj hji hik => by
            by_cases e : i = k
            · subst e; exact hnew j hj hji
            · exact h3.inj i j hi hj hji (by omega)⟩
          · by_cases e : j = k
            · subst e; exact ⟨by omega, hev⟩
            · exact h3.even j hj (by omega)
          · by_cases e : j = k
            · subst e; exact ⟨ch, l1, l2, List.getElem?_set_self hlt⟩
            · obtain ⟨d, q1, q2, q3⟩ := h3.here j hj (by omega)
              refine ⟨d, q1, q2, ?_⟩
              have hne : atN c l[k] ≠ atN c l[j] := fun e => by
                have := hq2 _ _ q3
                rw [← e, hget] at this
                exact q2 (Option.some.inj this).symm
              rw [List.getElem?_set_ne hne]
              exact hq2 _ _ q3
          · by_cases e : q = atN c l[k]
            · exact ⟨k, hk, by omega, e⟩
            · rw [List.getElem?_set_ne (Ne.symm e)] at h4
              rcases hq q d h4 with h4 | h4
              · obtain ⟨j, g1, g2, g3⟩ := h3.only q d h4 h5
                exact ⟨j, g1, by omega, g3⟩
              · exact (h5 h4).elim
          · rw [filter_set_len ch l2 s' _ hget, hfil]
          · rw [List.length_set, hs', hlen]; have := h3.len; omega
        · have hb2 : (s'[atN c l[k]] != 32) = true := by simpa using hbl
          refine ⟨([], 9), by simp only [hb2, cond_true], .inr (.inl ⟨rfl, ?_⟩)⟩
          rcases hq _ _ (List.getElem?_eq_getElem hlt) with h4 | h4
          · obtain ⟨j, g1, g2, g3⟩ := h3.only _ _ h4 hbl
            refine ⟨k, j, hk, g1, g2, ?_⟩
            have e2 := h3.even j g1 g2
            unfold evn at e2
            unfold atN at g3
            omega
          · exact (hbl h4).elim
      · have hb : (Int.tmod (l[k].place - c.left) 2 != 0) = true := by rw [em]; simpa using hev
        exact ⟨([], 8), by simp only [hneg, decide_false, hb, Bool.false_or, cond_true], .inl rfl⟩
theorem Line_ok (N : Nat) (c : Carriage) (l : List Struck) (hl : l.length ≤ 1000) (hN : 3000 ≤ N) : ∃ r, i_LineOf N c l = some r ∧ ((okC c && okS l) = false → r = ([], 1)) ∧ (okC c = true → okS l = true → LnR c l r) := by
  unfold i_LineOf
  simp only [okC_i, okS_i N l hl (by omega), Option.bind_some, orO_some, withK_eq]
  cases hc : okC c with
  | false => exact ⟨([], 1), rfl, fun _ => rfl, fun h => by cases h⟩
  | true =>
    cases hs : okS l with
    | false => exact ⟨([], 1), rfl, fun _ => rfl, fun _ h => by cases h⟩
    | true =>
      obtain ⟨h200, _⟩ := okS_facts hs
      obtain ⟨r, e, h⟩ := line_l1 c l hc hs l.length 0 N [] (by omega) (by omega) ⟨fun j hj h => by omega, fun j hj h => by omega, fun q ch h => by simp at h, rfl, by simp, fun i j hi hj h1 h2 => by omega⟩
      rw [show ((0 : Nat) : Int) = 0 from rfl] at e
      exact ⟨r, by simp only [Bool.not_true, Bool.or_self, cond_false, e], fun h => (by cases h), fun _ _ => h⟩
theorem Half_ok (N : Nat) (c : Carriage) (l : List Struck) (hl : l.length ≤ 1000) (hN : 3000 ≤ N) : ∃ r, i_HalfShifted N c l = some r ∧ (okC c = true → okS l = true → (∀ j, ∀ h : j < l.length, evn c l[j]) → r.1 = false) := by
  unfold i_HalfShifted
  simp only [okC_i, okS_i N l hl (by omega), Option.bind_some, orO_some, withK_eq]
  cases hc : okC c with
  | false => exact ⟨(false, 1), rfl, fun h => by cases h⟩
  | true =>
    cases hs : okS l with
    | false => exact ⟨(false, 1), rfl, fun _ h => by cases h⟩
    | true =>
      obtain ⟨h200, hf⟩ := okS_facts hs
      obtain ⟨c1, c2, c3, _⟩ := okC_facts hc
      have loop : ∀ (n k N : Nat), k + n = l.length → n < N → ∃ r, i_HalfShifted_l1 (some (false, 0)) c l N (k : Int) = some r ∧ ((∀ j, ∀ h : j < l.length, evn c l[j]) → r.1 = false) := by
        intro n
        induction n with
        | zero =>
          intro k N h1 h2
          obtain ⟨N, rfl⟩ := pos_fuel (show 0 < N by omega)
          have hn : ¬ ((k : Int) < (l.length : Int)) := by omega
          exact ⟨(false, 0), by simp only [i_HalfShifted_l1, hn, decide_false, cond_false], fun _ => rfl⟩
        | succ n ih =>
          intro k N h1 h2
          obtain ⟨N, rfl⟩ := pos_fuel (show 0 < N by omega)
          have hn : (k : Int) < (l.length : Int) := by omega
          have hk : k < l.length := by omega
          obtain ⟨p1, p2, _⟩ := hf k hk
          have e1 : w64 (l[k].place - c.left) = l[k].place - c.left := w64_id (by omega) (by omega)
          obtain ⟨r, e, h⟩ := ih (k + 1) N (by omega) (by omega)
          simp only [i_HalfShifted_l1, hn, decide_true, cond_true, idx_lt l k hk, Option.bind_some, e1, w64_nat k (by omega), e]
          cases hb : (Int.tmod (l[k].place - c.left) 2 != 0) with
          | false => exact ⟨r, rfl, h⟩
          | true =>
            refine ⟨(true, 0), rfl, fun hall => ?_⟩
            have := hall k hk
            unfold evn at this
            rw [Int.tmod_eq_emod_of_nonneg this.1, this.2] at hb
            cases hb
      obtain ⟨r, e, h⟩ := loop l.length 0 N (by omega) (by omega)
      rw [show ((0 : Nat) : Int) = 0 from rfl] at e
      exact ⟨r, by simp only [Bool.not_true, Bool.or_self, cond_false, e], fun _ _ => h⟩
end Go.Proofs.Ythkckgiicchpnaa
