/-
  Plain lemmas on these functions. No conditions but those that each states.
-/
import Derived.Test.YthkckgiicchpnaaFnTypedActsP9
namespace Go.Proofs.Ythkckgiicchpnaa
set_option linter.unusedVariables false
set_option linter.unusedSimpArgs false
/-! The acts of a line, and the line of its acts. -/
def actOf (c : UInt8) : Act := if c = 32 then ⟨1, []⟩ else ⟨0, [c]⟩
theorem subc (s : Str) (k : Nat) (h : k < s.length) : sub s (k : Int) ((k + 1 : Nat) : Int) = some [s[k]] := by
  rw [sub_some s _ _ (by omega) (by omega) (by omega)]
  simp only [Int.toNat_natCast, Nat.add_sub_cancel_left]
  rw [List.drop_eq_getElem_cons h]
  rfl
theorem al_i (kj : List Act → Option (List Act × Int)) (t : Str) (ht : t.length ≤ 1000) : ∀ (n i N : Nat), i + n = t.length → n < N → i_ActsForLine_l1 kj t N ((t.take i).map actOf) (i : Int) = kj (t.map actOf) := by
  intro n
  induction n with
  | zero =>
    intro i N h1 h2
    obtain ⟨N, rfl⟩ := pos_fuel h2
    have hi : ¬ ((i : Int) < (t.length : Int)) := by omega
    simp only [i_ActsForLine_l1, hi, decide_false, cond_false]
    rw [List.take_of_length_le (by omega)]
  | succ n ih =>
    intro i N h1 h2
    obtain ⟨N, rfl⟩ := pos_fuel h2
    have hi : (i : Int) < (t.length : Int) := by omega
    have hil : i < t.length := by omega
    have hnx : (t.take (i + 1)).map actOf = (t.take i).map actOf ++ [actOf t[i]] := by rw [List.take_succ_eq_append_getElem hil, List.map_append]; rfl
    have := ih (i + 1) N (by omega) (by omega)
    rw [hnx] at this
    simp only [i_ActsForLine_l1, hi, decide_true, cond_true, withK_eq, idx_lt t i hil, Option.bind_some, w64_nat i (by omega), subc t i hil]
    have la : ∀ a : Act, app ((t.take i).map actOf) [a] = some ((t.take i).map actOf ++ [a]) := fun a => app_some _ _ (by unfold LIM; simp; omega)
    by_cases hb : t[i] = 32
    · have hb' : (t[i] == 32) = true := by simpa using hb
      rw [hb', cond_true, la, Option.bind_some, ← this]
      unfold actOf
      rw [if_pos hb]
    · have hb' : (t[i] == 32) = false := by simpa using hb
      rw [hb', cond_false, la, Option.bind_some, ← this]
      simp only [actOf, hb, if_false]
theorem al_s (kj : List Act → Option (List Act × Int)) (s : Str) (q : Nat) (hq : q ≤ s.length) (hs : s.length ≤ 1000) : ∀ (n i N : Nat), i + n = q → n < N → s_ActsForLine_l2 kj s (q : Int) N ((s.take i).map actOf) (i : Int) = kj ((s.take q).map actOf) := by
  intro n
  induction n with
  | zero =>
    intro i N h1 h2
    obtain ⟨N, rfl⟩ := pos_fuel h2
    have hi : ¬ ((i : Int) < (q : Int)) := by omega
    simp only [s_ActsForLine_l2, hi, decide_false, cond_false]
    rw [show i = q by omega]
  | succ n ih =>
    intro i N h1 h2
    obtain ⟨N, rfl⟩ := pos_fuel h2
    have hi : (i : Int) < (q : Int) := by omega
    have hil : i < s.length := by omega
    have hnx : (s.take (i + 1)).map actOf = (s.take i).map actOf ++ [actOf s[i]] := by rw [List.take_succ_eq_append_getElem hil, List.map_append]; rfl
    have := ih (i + 1) N (by omega) (by omega)
    rw [hnx] at this
    simp only [s_ActsForLine_l2, hi, decide_true, cond_true, withK_eq, idx_lt s i hil, Option.bind_some, w64_nat i (by omega), subc s i hil]
    have la : ∀ a : Act, app ((s.take i).map actOf) [a] = some ((s.take i).map actOf ++ [a]) := fun a => app_some _ _ (by unfold LIM; simp; omega)
    by_cases hb : s[i] = 32
    · have hb' : (s[i] == 32) = true := by simpa using hb
      rw [hb', cond_true, la, Option.bind_some, ← this]
      unfold actOf
      rw [if_pos hb]
    · have hb' : (s[i] == 32) = false := by simpa using hb
      rw [hb', cond_false, la, Option.bind_some, ← this]
      simp only [actOf, hb, if_false]
theorem ActsFor_ok (N : Nat) (c : Carriage) (s : Str) (hs : s.length ≤ 1000) (hN : 2000 ≤ N) : ∃ r, i_ActsForLine N c s = some r ∧ s_ActsForLine N c s = some r ∧ r.1.length ≤ 1000 ∧
    (r.2 ≠ 0 ∨ (okC c = true ∧ okT s = true ∧ 2 * (trimmed s).length ≤ c.right - c.left ∧ r = ((trimmed s).map actOf, 0))) := by
  unfold i_ActsForLine s_ActsForLine
  simp only [okC_i, okC_s, okT_i N s hs (by omega), okT_s N s hs (by omega), Option.bind_some, withK_eq, trimRight_ok N s hs (by omega), trim_s _ s hs s.length N (Nat.le_refl _) (by omega)]
  cases hc : okC c with
  | false => exact ⟨([], 1), rfl, rfl, by simp, .inl (by decide)⟩
  | true =>
    cases ht : okT s with
    | false => exact ⟨([], 2), rfl, rfl, by simp, .inl (by decide)⟩
    | true =>
      obtain ⟨c1, c2, c3, _⟩ := okC_facts hc
      have hl := trimmed_len s
      have hle := tl_le s s.length
      have e1 : w64 (c.right - c.left) = c.right - c.left := w64_id (by omega) (by omega)
      have e2 : w64 (2 * ((trimmed s).length : Int)) = 2 * ((trimmed s).length : Int) := w64_id (by omega) (by omega)
      have e3 : w64 (2 * ((tl s s.length : Nat) : Int)) = 2 * ((trimmed s).length : Int) := by rw [← hl]; exact e2
      have d1 : decide (2 * ((trimmed s).length : Int) > c.right - c.left) = decide (c.right - c.left < 2 * ((trimmed s).length : Int)) := rfl
      simp only [Bool.not_true, cond_false, e1, e2, e3, d1]
      by_cases h : c.right - c.left < 2 * ((trimmed s).length : Int)
      · simp only [h, decide_true, cond_true]
        exact ⟨([], 5), rfl, rfl, by simp, .inl (by decide)⟩
      · simp only [h, decide_false, cond_false]
        have a1 := al_i (fun l14 => some (l14, 0)) (trimmed s) (by omega) (trimmed s).length 0 N (by omega) (by omega)
        have a2 := al_s (fun l22 => some (l22, 0)) s (tl s s.length) hle hs (tl s s.length) 0 N (by omega) (by omega)
        rw [show ((0 : Nat) : Int) = 0 from rfl, List.take_zero, List.map_nil] at a1 a2
        exact ⟨_, a1, a2, by simp; omega, .inr ⟨trivial, trivial, by omega, rfl⟩⟩
/-- the letters of a line at their places -/
def skel (left : Int) : Nat → Str → List Struck
  | _, [] => []
  | q, c :: r => if c = 32 then skel left (q + 1) r else ⟨left + 2 * q, [c]⟩ :: skel left (q + 1) r
theorem go_line (c : Carriage) (hc : okC c = true) : ∀ (r : Str) (q i : Nat) (b : Int) (l : List Struck), c.left + 2 * (q + r.length) ≤ c.right →
    ∃ b', go c (r.map actOf) ⟨c.left + 2 * q, true, b, l⟩ i = (⟨c.left + 2 * ((q + r.length : Nat) : Int), true, b', l ++ skel c.left q r⟩, none)
  | [], q, i, b, l, h => ⟨b, by simp [go, skel]⟩
  | ch :: r, q, i, b, l, h => by
    obtain ⟨c1, c2, c3, _⟩ := okC_facts hc
    simp only [List.length_cons] at h
    have n1 : ¬ c.left + 2 * (q : Int) + 2 > c.right := by omega
    have n2 : ¬ c.left + 2 * (q : Int) + 2 > 300 := by omega
    have e : c.left + 2 * (q : Int) + 2 = c.left + 2 * ((q + 1 : Nat) : Int) := by omega
    simp only [List.map_cons, go]
    by_cases hb : ch = 32
    · have ha : actOf ch = ⟨1, []⟩ := by unfold actOf; rw [if_pos hb]
      have hst : stp c ⟨c.left + 2 * q, true, b, l⟩ ⟨1, []⟩ = some ⟨c.left + 2 * ((q + 1 : Nat) : Int), true, bif decide (c.left + 2 * (q : Int) < c.bell) && decide (c.bell ≤ c.left + 2 * (q : Int) + 2) then b + 1 else b, l⟩ := by
        rw [← e]
        simp [stp, n1, n2]
      rw [ha, hst]
      obtain ⟨b', h'⟩ := go_line c hc r (q + 1) (i + 1) (bif decide (c.left + 2 * (q : Int) < c.bell) && decide (c.bell ≤ c.left + 2 * (q : Int) + 2) then b + 1 else b) l (by omega)
      refine ⟨b', ?_⟩
      simp only
      rw [h', skel, if_pos hb]
      simp only [List.length_cons]
      rw [show q + 1 + r.length = q + (r.length + 1) by omega]
    · have ha : actOf ch = ⟨0, [ch]⟩ := by unfold actOf; rw [if_neg hb]
      have hst : stp c ⟨c.left + 2 * q, true, b, l⟩ ⟨0, [ch]⟩ = some ⟨c.left + 2 * ((q + 1 : Nat) : Int), true, bif decide (c.left + 2 * (q : Int) < c.bell) && decide (c.bell ≤ c.left + 2 * (q : Int) + 2) then b + 1 else b, l ++ [⟨c.left + 2 * q, [ch]⟩]⟩ := by
        rw [← e]
        simp [stp, n1, n2]
      rw [ha, hst]
      obtain ⟨b', h'⟩ := go_line c hc r (q + 1) (i + 1) (bif decide (c.left + 2 * (q : Int) < c.bell) && decide (c.bell ≤ c.left + 2 * (q : Int) + 2) then b + 1 else b) (l ++ [⟨c.left + 2 * q, [ch]⟩]) (by omega)
      refine ⟨b', ?_⟩
      simp only
      rw [h', skel, if_neg hb, List.append_assoc, List.singleton_append]
      simp only [List.length_cons]
      rw [show q + 1 + r.length = q + (r.length + 1) by omega]
theorem skel_mem (left : Int) : ∀ (r : Str) (q : Nat) (e : Struck), e ∈ skel left q r → ∃ j, ∃ h : j < r.length, e = ⟨left + 2 * ((q + j : Nat) : Int), [r[j]]⟩ ∧ r[j] ≠ 32
  | [], q, e, h => by simp [skel] at h
  | c :: r, q, e, h => by
    unfold skel at h
    split at h
    · obtain ⟨j, hj, h1, h2⟩ := skel_mem left r (q + 1) e h
      exact ⟨j + 1, by simp; omega, by rw [h1]; simp; omega, by simpa using h2⟩
    · rename_i hc
      rcases List.mem_cons.1 h with rfl | h
      · exact ⟨0, by simp, by simp, by simpa using hc⟩
      · obtain ⟨j, hj, h1, h2⟩ := skel_mem left r (q + 1) e h
        exact ⟨j + 1, by simp; omega, by rw [h1]; simp; omega, by simpa using h2⟩
theorem skel_len (left : Int) : ∀ (r : Str) (q : Nat), (skel left q r).length ≤ r.length
  | [], q => Nat.le_refl _
  | c :: r, q => by
    unfold skel
    split
    · exact Nat.le_succ_of_le (skel_len left r (q + 1))
    · simp only [List.length_cons]; have := skel_len left r (q + 1); omega
theorem padL (kj : Str → Option (Str × Int)) (c : Carriage) (e : Struck) (q : Nat) (hc : w64 (Int.tdiv (w64 (e.place - c.left)) 2) = (q : Int)) (hq : q ≤ 1000) : ∀ (n N : Nat) (l : Str), l.length + n = q + 1 → n < N → i_LineOf_l2 kj c e N l = kj (l ++ List.replicate n 32) := by
  intro n
  induction n with
  | zero =>
    intro N l h1 h2
    obtain ⟨N, rfl⟩ := pos_fuel h2
    have hn : ¬ ((l.length : Int) ≤ (q : Int)) := by omega
    simp only [i_LineOf_l2, hc, hn, decide_false, cond_false, List.replicate_zero, List.append_nil]
  | succ n ih =>
    intro N l h1 h2
    obtain ⟨N, rfl⟩ := pos_fuel h2
    have hn : (l.length : Int) ≤ (q : Int) := by omega
    simp only [i_LineOf_l2, hc, hn, decide_true, cond_true]
    rw [app_some _ _ (by unfold LIM; simp; omega), Option.bind_some, ih N _ (by simp; omega) (by omega), List.append_assoc]
    rfl
theorem set_pad (t s : Str) (q : Nat) (hq : q < t.length) (hs : s.length ≤ q) (h : s ++ List.replicate (q - s.length) 32 = t.take q) :
    (s ++ List.replicate (q + 1 - s.length) (32 : UInt8))[q]? = some 32 ∧ (s ++ List.replicate (q + 1 - s.length) (32 : UInt8)).set q t[q] = t.take (q + 1) := by
  have e : s ++ List.replicate (q + 1 - s.length) (32 : UInt8) = t.take q ++ [32] := by
    rw [← h, show q + 1 - s.length = (q - s.length) + 1 by omega, List.replicate_succ', List.append_assoc]
  have hl : (t.take q).length = q := by rw [List.length_take]; omega
  rw [e]
  refine ⟨by rw [List.getElem?_append_right (by omega), hl]; simp, ?_⟩
  rw [List.take_succ_eq_append_getElem hq]
  rw [List.set_append_right _ _ (by omega), hl]
  simp
theorem line_back (c : Carriage) (hc : okC c = true) (t : Str) (hlast : ∀ h : 0 < t.length, t[t.length - 1]? ≠ some 32) (hr : c.left + 2 * t.length ≤ c.right) (L : List Struck) (hL : L.length ≤ 1000) : ∀ (r : Str) (q k N : Nat) (s : Str), t.drop q = r → q ≤ t.length → L.drop k = skel c.left q r → k ≤ L.length → r.length + 300 < N → s.length ≤ q → s ++ List.replicate (q - s.length) 32 = t.take q →
    i_LineOf_l1 (fun l15 => some (l15, 0)) c L N s (k : Int) = some (t, 0) := by
  obtain ⟨c1, c2, c3, _⟩ := okC_facts hc
  intro r
  induction r with
  | nil =>
    intro q k N s h1 h2 h3 h4 h5 h6 h7
    obtain ⟨N, rfl⟩ := pos_fuel (show 0 < N by omega)
    have hq : q = t.length := by have := congrArg List.length h1; simp at this; omega
    have hk : ¬ ((k : Int) < (L.length : Int)) := by have := congrArg List.length h3; simp [skel] at this; omega
    have hs : s = t := by
      rw [hq, List.take_length] at h7
      by_cases e : s.length = t.length
      · rw [e, Nat.sub_self, List.replicate_zero, List.append_nil] at h7; exact h7
      · exfalso
        have h8 := hlast (by omega)
        apply h8
        rw [← h7, List.getElem?_append_right (by simp; omega), List.getElem?_replicate, if_pos (by simp; omega)]
    simp only [i_LineOf_l1, hk, decide_false, cond_false, hs]
  | cons ch r ih =>
    intro q k N s h1 h2 h3 h4 h5 h6 h7
    have hq : q < t.length := by have := congrArg List.length h1; simp at this; omega
    rw [List.drop_eq_getElem_cons hq] at h1
    obtain ⟨g1, g2⟩ := List.cons.inj h1
    simp only [List.length_cons] at h5
    unfold skel at h3
    by_cases hb : ch = 32
    · rw [if_pos hb] at h3
      refine ih (q + 1) k N s g2 (by omega) h3 h4 (by omega) (by omega) ?_
      rw [List.take_succ_eq_append_getElem hq, ← h7, g1, hb, show q + 1 - s.length = (q - s.length) + 1 by omega, List.replicate_succ', List.append_assoc]
    · rw [if_neg hb] at h3
      obtain ⟨N, rfl⟩ := pos_fuel (show 0 < N by omega)
      have hk : k < L.length := by have := congrArg List.length h3; simp at this; omega
      rw [List.drop_eq_getElem_cons hk] at h3
      obtain ⟨g3, g4⟩ := List.cons.inj h3
      have hki : (k : Int) < (L.length : Int) := by omega
      have e1 : w64 (L[k].place - c.left) = 2 * (q : Int) := by rw [g3]; show w64 (c.left + 2 * (q : Int) - c.left) = _; rw [w64_id (by omega) (by omega)]; omega
      have em : (Int.tmod (2 * (q : Int)) 2 != 0) = false := by rw [Int.tmod_eq_emod_of_nonneg (by omega)]; simp
      have en : ¬ 2 * (q : Int) < 0 := by omega
      have ed0 : w64 (Int.tdiv (2 * (q : Int)) 2) = (q : Int) := by rw [Int.tdiv_eq_ediv_of_nonneg (by omega), w64_id (by omega) (by omega)]; omega
      have ed : w64 (Int.tdiv (w64 (L[k].place - c.left)) 2) = (q : Int) := by rw [e1, ed0]
      obtain ⟨p1, p2⟩ := set_pad t s q hq h6 h7
      have hpad := fun kj => padL kj c L[k] q ed (by omega) (q + 1 - s.length) N s (by omega) (by omega)
      have hx : idx (s ++ List.replicate (q + 1 - s.length) (32 : UInt8)) (q : Int) = some 32 := by rw [idx_nat]; exact p1
      have hlet : idx L[k].letter 0 = some ch := by rw [g3]; rfl
      simp only [i_LineOf_l1, hki, decide_true, cond_true, withK_eq, idx_lt L k hk, Option.bind_some, e1, en, decide_false, em, orO_some, Bool.or_self, cond_false, hpad, ed0, hx, bne_self_eq_false, hlet, Int.toNat_natCast, w64_nat k (by omega)]
      rw [← g1, p2]
      exact ih (q + 1) (k + 1) N _ g2 (by omega) g4 (by omega) (by omega) (by rw [List.length_take]; omega) (by rw [List.length_take, show q + 1 - min (q + 1) t.length = 0 by omega, List.replicate_zero, List.append_nil])
end Go.Proofs.Ythkckgiicchpnaa
