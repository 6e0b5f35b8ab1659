/-
  Plain lemmas on these functions. No conditions but those that each states.
-/
import Derived.Test.YthkckgiicchpnaaFnTypedActsP8
namespace Go.Proofs.Ythkckgiicchpnaa
set_option linter.unusedVariables false
set_option linter.unusedSimpArgs false
/-! Texts of acts. -/
theorem Text_ok (N : Nat) (l : List Act) (hl : l.length ≤ 500) (hN : 1000 ≤ N) : ∃ r, i_ActText N l = some r ∧ s_ActText N l = some r := by
  unfold i_ActText s_ActText
  simp only [okA_i N l (by omega) (by omega), okA_s N l (by omega) (by omega), Option.bind_some]
  cases ha : okA l with
  | false => exact ⟨[], rfl, rfl⟩
  | true =>
    obtain ⟨h200, hA⟩ := okA_facts ha
    have hck : chkA 6 ([[], [115, 112, 97, 99, 101], [98, 97, 99, 107], [104, 97, 108, 102], [102, 114, 101, 101], [114, 101, 116, 117, 114, 110]] : List Str) = some [[], [115, 112, 97, 99, 101], [98, 97, 99, 107], [104, 97, 108, 102], [102, 114, 101, 101], [114, 101, 116, 117, 114, 110]] := rfl
    simp only [Bool.not_true, cond_false, hck, Option.bind_some, withK_eq]
    have loop : ∀ (n i N : Nat) (out : Str), i + n = l.length → n < N → out.length ≤ 10 * i → ∃ r, i_ActText_l1 (fun out10 => some out10) l N out (i : Int) = some r ∧ s_ActText_l1 (fun out8 => some out8) l N out (i : Int) = some r := by
      intro n
      induction n with
      | zero =>
        intro i N out h1 h2 h3
        obtain ⟨N, rfl⟩ := pos_fuel h2
        have hi : ¬ ((i : Int) < (l.length : Int)) := by omega
        exact ⟨out, by simp only [i_ActText_l1, hi, decide_false, cond_false], by simp only [s_ActText_l1, hi, decide_false, cond_false]⟩
      | succ n ih =>
        intro i N out h1 h2 h3
        obtain ⟨N, rfl⟩ := pos_fuel h2
        have hi : (i : Int) < (l.length : Int) := by omega
        have hil : i < l.length := by omega
        obtain ⟨out2, ho, hol⟩ : ∃ out2 : Str, (if i = 0 then out else out ++ [32]) = out2 ∧ out2.length ≤ 10 * i + 1 := ⟨_, rfl, by split; exact Nat.le_succ_of_le h3; (rw [List.length_append]; show out.length + 1 ≤ _; omega)⟩
        have hcat : i ≠ 0 → cat out [32] = some out2 := fun h => by rw [cat_some _ _ (by unfold LIM; simp; omega), ← ho, if_neg h]
        have hword : ∃ w : Str, w.length ≤ 7 ∧ ((l[i].kind = 0 ∧ cat [39] l[i].letter = some w) ∨ (l[i].kind ≠ 0 ∧ idx ([[], [115, 112, 97, 99, 101], [98, 97, 99, 107], [104, 97, 108, 102], [102, 114, 101, 101], [114, 101, 116, 117, 114, 110]] : List Str) l[i].kind = some w)) := by
          rcases okAct_kind (hA i hil) with ⟨hk, hL⟩ | ⟨hk, _⟩
          · obtain ⟨ch, e, _, hlen⟩ := isL_facts hL
            exact ⟨[39] ++ l[i].letter, by simp; omega, .inl ⟨hk, cat_some _ _ (by unfold LIM; simp; omega)⟩⟩
          · rcases hk with hk | hk | hk | hk | hk <;> rw [hk] <;> exact ⟨_, by decide, .inr ⟨by decide, rfl⟩⟩
        obtain ⟨w, hw7, hw⟩ := hword
        obtain ⟨r, r1, r2⟩ := ih (i + 1) N (out2 ++ w) (by omega) (by omega) (by simp; omega)
        have hc2 : cat out2 w = some (out2 ++ w) := cat_some _ _ (by unfold LIM; omega)
        refine ⟨r, ?_, ?_⟩
        · simp only [i_ActText_l1, hi, decide_true, cond_true, withK_eq, idx_lt l i hil, Option.bind_some, w64_nat i (by omega)]
          by_cases h0 : i = 0
          · have hp : ¬ (i : Int) > 0 := by omega
            rw [if_pos h0] at ho
            subst ho
            simp only [hp, decide_false, cond_false]
            rcases hw with ⟨hk, hw⟩ | ⟨hk, hw⟩
            · have hb : (l[i].kind == 0) = true := by simpa using hk
              simp only [hb, cond_true, hw, Option.bind_some, hc2, r1]
            · have hb : (l[i].kind == 0) = false := by simpa using hk
              simp only [hb, cond_false, hw, Option.bind_some, hc2, r1]
          · have hp : (i : Int) > 0 := by omega
            simp only [hp, decide_true, cond_true, hcat h0, Option.bind_some]
            rcases hw with ⟨hk, hw⟩ | ⟨hk, hw⟩
            · have hb : (l[i].kind == 0) = true := by simpa using hk
              simp only [hb, cond_true, hw, Option.bind_some, hc2, r1]
            · have hb : (l[i].kind == 0) = false := by simpa using hk
              simp only [hb, cond_false, hw, Option.bind_some, hc2, r1]
        · simp only [s_ActText_l1, hi, decide_true, cond_true, withK_eq, idx_lt l i hil, Option.bind_some, w64_nat i (by omega)]
          by_cases h0 : i = 0
          · have hp : ¬ (i : Int) > 0 := by omega
            rw [if_pos h0] at ho
            subst ho
            simp only [hp, decide_false, cond_false]
            rcases hw with ⟨hk, hw⟩ | ⟨hk, hw⟩
            · have hb : (l[i].kind == 0) = true := by simpa using hk
              simp only [hb, cond_true, hw, Option.bind_some, hc2, r2]
            · have hb : (l[i].kind == 0) = false := by simpa using hk
              simp only [hb, cond_false, hw, Option.bind_some, hc2, r2]
          · have hp : (i : Int) > 0 := by omega
            simp only [hp, decide_true, cond_true, hcat h0, Option.bind_some]
            rcases hw with ⟨hk, hw⟩ | ⟨hk, hw⟩
            · have hb : (l[i].kind == 0) = true := by simpa using hk
              simp only [hb, cond_true, hw, Option.bind_some, hc2, r2]
            · have hb : (l[i].kind == 0) = false := by simpa using hk
              simp only [hb, cond_false, hw, Option.bind_some, hc2, r2]
    obtain ⟨r, r1, r2⟩ := loop l.length 0 N [] (by omega) (by omega) (by simp)
    rw [show ((0 : Nat) : Int) = 0 from rfl] at r1 r2
    exact ⟨r, r1, r2⟩
theorem SameS_ok (N : Nat) (a : List Struck) (hl : a.length ≤ 1000) (hN : a.length < N) : s_SameStruck N a a = some true := by
  have loop : ∀ (K : Option Bool) (n i N : Nat), i + n = a.length → n < N → s_SameStruck_l1 K a a N (i : Int) = K := by
    intro K n
    induction n with
    | zero =>
      intro i N h1 h2
      obtain ⟨N, rfl⟩ := pos_fuel h2
      have hi : ¬ ((i : Int) < (a.length : Int)) := by omega
      simp only [s_SameStruck_l1, hi, decide_false, cond_false]
    | succ n ih =>
      intro i N h1 h2
      obtain ⟨N, rfl⟩ := pos_fuel h2
      have hi : (i : Int) < (a.length : Int) := by omega
      have hb : Struck.beq a[i] a[i] = true := by simp [Struck.beq]
      simp only [s_SameStruck_l1, hi, decide_true, cond_true, idx_lt a i (by omega), Option.bind_some, hb, Bool.not_true, cond_false, w64_nat i (by omega), ih (i + 1) N (by omega) (by omega)]
  have := fun K => loop K a.length 0 N (by omega) hN
  rw [show ((0 : Nat) : Int) = 0 from rfl] at this
  unfold s_SameStruck
  simp only [bne_self_eq_false, cond_false, withK_eq, this]
theorem wl1_ok (r : List Act × Int) (hl : r.1.length ≤ 1000) (K : Option Bool) : ∀ (n i N : Nat), i + n = r.1.length → n < N → w_FnTypedActs_l1 K r r N (i : Int) = K := by
  intro n
  induction n with
  | zero =>
    intro i N h1 h2
    obtain ⟨N, rfl⟩ := pos_fuel h2
    have hi : ¬ ((i : Int) < (r.1.length : Int)) := by omega
    simp only [w_FnTypedActs_l1, hi, decide_false, cond_false]
  | succ n ih =>
    intro i N h1 h2
    obtain ⟨N, rfl⟩ := pos_fuel h2
    have hi : (i : Int) < (r.1.length : Int) := by omega
    have hb : Act.beq r.1[i] r.1[i] = true := by simp [Act.beq]
    simp only [w_FnTypedActs_l1, hi, decide_true, cond_true, idx_lt r.1 i (by omega), Option.bind_some, hb, Bool.not_true, cond_false, w64_nat i (by omega), ih (i + 1) N (by omega) (by omega)]
/-! lines without blanks at their ends -/
def tl (s : Str) : Nat → Nat
  | 0 => 0
  | n + 1 => if s[n]? = some 32 then tl s n else n + 1
theorem tl_le (s : Str) : ∀ n, tl s n ≤ n
  | 0 => Nat.le_refl _
  | n + 1 => by unfold tl; split; exact Nat.le_succ_of_le (tl_le s n); exact Nat.le_refl _
theorem tl_last (s : Str) : ∀ n, n ≤ s.length → 0 < tl s n → s[tl s n - 1]? ≠ some 32
  | 0, _, h => by simp [tl] at h
  | n + 1, hn, h => by
    unfold tl at h ⊢
    split
    · rename_i e
      rw [if_pos e] at h
      exact tl_last s n (by omega) h
    · rename_i e
      exact e
theorem trim_i (kj : Int → Option Str) (s : Str) (hs : s.length ≤ 1000) : ∀ (n N : Nat), n ≤ s.length → n < N → i_trimRight_l1 kj s N (n : Int) = kj (tl s n : Int) := by
  intro n
  induction n with
  | zero =>
    intro N h1 h2
    obtain ⟨N, rfl⟩ := pos_fuel h2
    simp [i_trimRight_l1, tl]
  | succ n ih =>
    intro N h1 h2
    obtain ⟨N, rfl⟩ := pos_fuel h2
    have e : w64 (((n + 1 : Nat) : Int) - 1) = (n : Int) := by rw [w64_id (by omega) (by omega)]; omega
    have hp : ((n + 1 : Nat) : Int) > 0 := by omega
    simp only [i_trimRight_l1, hp, decide_true, andO_true, e, idx_lt s n (by omega), Option.bind_some, tl, List.getElem?_eq_getElem (show n < s.length by omega)]
    by_cases hb : s[n] = 32
    · have hb' : (s[n] == 32) = true := by simpa using hb
      rw [hb', cond_true, if_pos (by rw [hb]), ih N (by omega) (by omega)]
    · have hb' : (s[n] == 32) = false := by simpa using hb
      rw [hb', cond_false, if_neg (by simpa using hb)]
theorem trim_s (kj : Int → Option (List Act × Int)) (s : Str) (hs : s.length ≤ 1000) : ∀ (n N : Nat), n ≤ s.length → n < N → s_ActsForLine_l1 kj s N (n : Int) = kj (tl s n : Int) := by
  intro n
  induction n with
  | zero =>
    intro N h1 h2
    obtain ⟨N, rfl⟩ := pos_fuel h2
    simp [s_ActsForLine_l1, tl]
  | succ n ih =>
    intro N h1 h2
    obtain ⟨N, rfl⟩ := pos_fuel h2
    have e : w64 (((n + 1 : Nat) : Int) - 1) = (n : Int) := by rw [w64_id (by omega) (by omega)]; omega
    have hp : ((n + 1 : Nat) : Int) > 0 := by omega
    simp only [s_ActsForLine_l1, hp, decide_true, andO_true, e, idx_lt s n (by omega), Option.bind_some, tl, List.getElem?_eq_getElem (show n < s.length by omega)]
    by_cases hb : s[n] = 32
    · have hb' : (s[n] == 32) = true := by simpa using hb
      rw [hb', cond_true, if_pos (by rw [hb]), ih N (by omega) (by omega)]
    · have hb' : (s[n] == 32) = false := by simpa using hb
      rw [hb', cond_false, if_neg (by simpa using hb)]
theorem trim_w (kj : Int → Option Str) (s : Str) (hs : s.length ≤ 1000) : ∀ (n N : Nat), n ≤ s.length → n < N → w_f6trim_l1 kj s N (n : Int) = kj (tl s n : Int) := by
  intro n
  induction n with
  | zero =>
    intro N h1 h2
    obtain ⟨N, rfl⟩ := pos_fuel h2
    simp [w_f6trim_l1, tl]
  | succ n ih =>
    intro N h1 h2
    obtain ⟨N, rfl⟩ := pos_fuel h2
    have e : w64 (((n + 1 : Nat) : Int) - 1) = (n : Int) := by rw [w64_id (by omega) (by omega)]; omega
    have hp : ((n + 1 : Nat) : Int) > 0 := by omega
    simp only [w_f6trim_l1, hp, decide_true, andO_true, e, idx_lt s n (by omega), Option.bind_some, tl, List.getElem?_eq_getElem (show n < s.length by omega)]
    by_cases hb : s[n] = 32
    · have hb' : (s[n] == 32) = true := by simpa using hb
      rw [hb', cond_true, if_pos (by rw [hb]), ih N (by omega) (by omega)]
    · have hb' : (s[n] == 32) = false := by simpa using hb
      rw [hb', cond_false, if_neg (by simpa using hb)]
def trimmed (s : Str) : Str := s.take (tl s s.length)
theorem sub_take (s : Str) (n : Nat) (h : n ≤ s.length) : sub s 0 (n : Int) = some (s.take n) := by
  rw [sub_some _ _ _ (by omega) (by omega) (by omega)]
  simp
theorem trimRight_ok (N : Nat) (s : Str) (hs : s.length ≤ 1000) (hN : s.length < N) : i_trimRight N s = some (trimmed s) := by
  unfold i_trimRight
  simp only [withK_eq, trim_i _ s hs s.length N (Nat.le_refl _) hN, sub_take s _ (tl_le s _), Option.bind_some]
  rfl
theorem f6trim_ok (N : Nat) (s : Str) (hs : s.length ≤ 1000) (hN : s.length < N) : w_f6trim N s = some (trimmed s) := by
  unfold w_f6trim
  simp only [withK_eq, trim_w _ s hs s.length N (Nat.le_refl _) hN, sub_take s _ (tl_le s _), Option.bind_some]
  rfl
theorem trimmed_len (s : Str) : (trimmed s).length = tl s s.length := by unfold trimmed; rw [List.length_take]; have := tl_le s s.length; omega
theorem trimmed_last (s : Str) (h : 0 < (trimmed s).length) : (trimmed s)[(trimmed s).length - 1]? ≠ some 32 := by
  have h1 := trimmed_len s
  have := tl_last s s.length (Nat.le_refl _) (by omega)
  rw [h1]
  unfold trimmed
  rw [List.getElem?_take, if_pos (by omega)]
  exact this
/-! texts -/
def okT (s : Str) : Bool := (s.all fun c => decide (32 ≤ c) && decide (c ≤ 126)) && decide ((s.length : Int) ≤ 300)
theorem okT_i (N : Nat) (s : Str) (hs : s.length ≤ 1000) (hN : s.length < N) : i_isText N s 32 300 = some (okT s) := by
  have loop : ∀ (K : Option Bool) (n i N : Nat), i + n = s.length → n < N → i_isText_l1 K s 32 N (i : Int) = if (s.drop i).all (fun c => decide (32 ≤ c) && decide (c ≤ 126)) then K else some false := by
    intro K n
    induction n with
    | zero =>
      intro i N h1 h2
      obtain ⟨N, rfl⟩ := pos_fuel h2
      have hi : ¬ ((i : Int) < (s.length : Int)) := by omega
      rw [List.drop_of_length_le (by omega)]
      simp only [i_isText_l1, hi, decide_false, cond_false, List.all_nil, if_true]
    | succ n ih =>
      intro i N h1 h2
      obtain ⟨N, rfl⟩ := pos_fuel h2
      have hi : (i : Int) < (s.length : Int) := by omega
      have hil : i < s.length := by omega
      rw [List.drop_eq_getElem_cons hil, List.all_cons]
      have q1 : decide (s[i] < 32) = !decide (32 ≤ s[i]) := by rw [Bool.eq_iff_iff]; simp
      have q2 : decide (s[i] > 126) = !decide (s[i] ≤ 126) := by rw [Bool.eq_iff_iff]; simp
      simp only [i_isText_l1, hi, decide_true, cond_true, idx_lt s i hil, Option.bind_some, orO_some, q1, q2, w64_nat i (by omega), ih (i + 1) N (by omega) (by omega)]
      cases decide (32 ≤ s[i]) <;> cases decide (s[i] ≤ 126) <;> simp
  unfold i_isText okT
  by_cases h : (s.length : Int) > 300
  · have : ¬ (s.length : Int) ≤ 300 := by omega
    simp [h, this]
  · have h' : (s.length : Int) ≤ 300 := by omega
    have := loop (some true) s.length 0 N (by omega) (by omega)
    rw [show ((0 : Nat) : Int) = 0 from rfl, List.drop_zero] at this
    simp only [h, decide_false, cond_false, withK_eq, this, h', decide_true, Bool.and_true]
    cases (s.all fun c => decide (32 ≤ c) && decide (c ≤ 126)) <;> rfl
theorem okT_s (N : Nat) (s : Str) (hs : s.length ≤ 1000) (hN : s.length < N) : s_l00Text N s 300 = some (okT s) := by
  have loop : ∀ (K : Option Bool) (n i N : Nat), i + n = s.length → n < N → s_l00Text_l1 K s N (i : Int) = if (s.drop i).all (fun c => decide (32 ≤ c) && decide (c ≤ 126)) then K else some false := by
    intro K n
    induction n with
    | zero =>
      intro i N h1 h2
      obtain ⟨N, rfl⟩ := pos_fuel h2
      have hi : ¬ ((i : Int) < (s.length : Int)) := by omega
      rw [List.drop_of_length_le (by omega)]
      simp only [s_l00Text_l1, hi, decide_false, cond_false, List.all_nil, if_true]
    | succ n ih =>
      intro i N h1 h2
      obtain ⟨N, rfl⟩ := pos_fuel h2
      have hi : (i : Int) < (s.length : Int) := by omega
      have hil : i < s.length := by omega
      rw [List.drop_eq_getElem_cons hil, List.all_cons]
      have q1 : decide (s[i] < 32) = !decide (32 ≤ s[i]) := by rw [Bool.eq_iff_iff]; simp
      have q2 : decide (s[i] > 126) = !decide (s[i] ≤ 126) := by rw [Bool.eq_iff_iff]; simp
      simp only [s_l00Text_l1, hi, decide_true, cond_true, idx_lt s i hil, Option.bind_some, orO_some, q1, q2, w64_nat i (by omega), ih (i + 1) N (by omega) (by omega)]
      cases decide (32 ≤ s[i]) <;> cases decide (s[i] ≤ 126) <;> simp
  unfold s_l00Text okT
  have := loop (some (decide ((s.length : Int) ≤ 300))) s.length 0 N (by omega) (by omega)
  rw [show ((0 : Nat) : Int) = 0 from rfl, List.drop_zero] at this
  simp only [withK_eq, this]
  cases (s.all fun c => decide (32 ≤ c) && decide (c ≤ 126)) <;> simp
end Go.Proofs.Ythkckgiicchpnaa
