/-
  Plain lemmas on these functions. No conditions but those that each states.
-/
import Derived.Test.YtpdcifgphocllaaFnAbbreviationsP9
namespace Go.Proofs.Ytpdcifgphocllaa
set_option linter.unusedVariables false
set_option linter.unusedSimpArgs false
/-! An abbreviation as a line. -/
def tx (x : Abbr) : Str := if vA x = true then x.short ++ [61] ++ x.long else []
theorem text_ok (x : Abbr) (hx : SzA x) (N : Nat) (hN : 1001 < N) : i_AbbrText N x = some (tx x) ∧ s_AbbrText N x = some (tx x) := by
  have o1 := va_i x hx N hN
  have o2 : s_l16One N (Abbr.mk x.short x.long) = some (vA x) := va_s x hx N hN
  unfold i_AbbrText s_AbbrText tx
  rw [o1, o2]
  simp only [Option.bind_some]
  obtain ⟨h1, h2⟩ := hx
  cases vA x with
  | false => exact ⟨rfl, rfl⟩
  | true =>
    rw [cat_some _ _ (by simp; unfold LIM; omega), Option.bind_some, cat_some _ _ (by simp; unfold LIM; omega)]
    exact ⟨rfl, rfl⟩
def rs (s : Str) : Abbr × Bool := match spl 61 s with
  | [a, b] => if vA ⟨a, b⟩ = true then (⟨a, b⟩, true) else (⟨[], []⟩, false)
  | _ => (⟨[], []⟩, false)
theorem vA_no {a b : Str} (h : vA ⟨a, b⟩ = true) : (61 : UInt8) ∉ a ∧ (61 : UInt8) ∉ b := by
  obtain ⟨a1, a2, a3⟩ := vA_facts h
  exact ⟨fun hm => (smc_ne (a1.1 _ hm)).2 rfl, fun hm => (smc_ne (a2.1 _ hm)).2 rfl⟩
theorem rs_of {s a b : Str} (h : s = a ++ 61 :: b) (hv : vA ⟨a, b⟩ = true) : rs s = (⟨a, b⟩, true) := by
  obtain ⟨h1, h2⟩ := vA_no hv
  have e : spl 61 s = [a, b] := by rw [h, spl_word 61 a b h1, spl_last 61 b h2]
  unfold rs
  rw [e]
  simp only [hv, if_true]
theorem rs_cases (s : Str) : rs s = (⟨[], []⟩, false) ∨ ∃ a b, s = a ++ 61 :: b ∧ vA ⟨a, b⟩ = true := by
  have hj := joi_spl 61 s
  unfold rs
  split
  · next a b e =>
    by_cases hv : vA ⟨a, b⟩ = true
    · rw [e] at hj
      exact .inr ⟨a, b, hj.symm, hv⟩
    · rw [if_neg hv]; exact .inl rfl
  · exact .inl rfl
theorem read_i1 (s : Str) (hs : s.length ≤ 1000) : ∀ (q x N : Nat) (u v : Str), x + q = s.length → q + 1100 < N → (∀ a b, a.length < x → s = a ++ 61 :: b → vA ⟨a, b⟩ ≠ true) → i_ReadAbbr_l1 (fun _ _ => some ((Abbr.mk [] []), false)) s N u v (x : Int) = some (rs s) := by
  intro q
  induction q with
  | zero =>
    intro x N u v h1 h2 h3
    obtain ⟨N, rfl⟩ := pos_fuel h2
    have hz : ¬ (x : Int) < (s.length : Int) := by omega
    simp only [i_ReadAbbr_l1, hz, decide_false, cond_false]
    rcases rs_cases s with e | ⟨a, b, e, hv⟩
    · rw [e]
    · exact absurd hv (h3 a b (by have := congrArg List.length e; simp at this; omega) e)
  | succ q ih =>
    intro x N u v h1 h2 h3
    obtain ⟨N, rfl⟩ := pos_fuel h2
    have hx : x < s.length := by omega
    have hz : (x : Int) < (s.length : Int) := by omega
    have ih := fun u v => ih (x + 1) N u v (by omega) (by omega)
    simp only [i_ReadAbbr_l1, hz, decide_true, cond_true, withK_n, idx_lt s x hx, Option.bind_some, w64_nat x (by omega)]
    have hd := List.drop_eq_getElem_cons hx
    have hcut : s = s.take x ++ s[x] :: s.drop (x + 1) := by rw [← hd, List.take_append_drop]
    cases hc : s[x] == 61 with
    | false =>
      rw [cond_false]
      refine ih u v fun a b ha e => ?_
      by_cases hax : a.length = x
      · have : s[x]? = some 61 := by rw [e, List.getElem?_append_right (by omega), hax, Nat.sub_self]; rfl
        rw [List.getElem?_eq_getElem hx] at this
        rw [Option.some.inj this] at hc; cases hc
      · exact h3 a b (by omega) e
    | true =>
      have s0 : sub s 0 (x : Int) = some (s.take x) := by
        rw [sub_some _ _ _ (by omega) (by omega) (by omega)]; simp
      have s1 : sub s ((x + 1 : Nat) : Int) (s.length : Int) = some (s.drop (x + 1)) := by
        rw [sub_some _ _ _ (by omega) (by omega) (by omega), Int.toNat_natCast, Int.toNat_natCast, List.take_of_length_le (by rw [List.length_drop]; omega)]
      have ec : s[x] = 61 := by simpa using hc
      have o1 := va_i ⟨s.take x, s.drop (x + 1)⟩ ⟨by show (s.take x).length ≤ 1000; rw [List.length_take]; omega, by show (s.drop (x + 1)).length ≤ 1000; rw [List.length_drop]; omega⟩ N (by omega)
      rw [cond_true, s0, Option.bind_some, s1, Option.bind_some, o1, Option.bind_some]
      rw [ec] at hcut
      cases hv : vA ⟨s.take x, s.drop (x + 1)⟩ with
      | true => rw [cond_true, rs_of hcut hv]
      | false =>
        rw [cond_false]
        refine ih u v fun a b ha e => ?_
        by_cases hax : a.length = x
        · have e1 : a = s.take x := by rw [e, ← hax, List.take_left]
          have e2 : b = s.drop (x + 1) := by
            rw [e, ← hax, List.drop_append]
            simp
          rw [e1, e2, hv]; decide
        · exact h3 a b (by omega) e
theorem read_ok (s : Str) (hs : s.length ≤ 1000) (N : Nat) (hN : 2200 < N) : i_ReadAbbr N s = some (rs s) ∧ s_ReadAbbr N s = some (rs s) := by
  constructor
  · unfold i_ReadAbbr
    rw [withK_n]
    exact read_i1 s hs s.length 0 N [] [] (by omega) (by omega) fun a b h => by omega
  · unfold s_ReadAbbr
    rw [Split_ok N s 61 hs (by omega), Option.bind_some]
    have hsz := spl_sz 61 s
    unfold rs
    split
    · next a b e =>
      rw [e] at hsz ⊢
      have h1 := hsz a (by simp)
      have h2 := hsz b (by simp)
      have z : (((([a, b] : List Str).length : Nat) : Int) != 2) = false := rfl
      have e0 : idx [a, b] 0 = some a := rfl
      have e1 : idx [a, b] 1 = some b := rfl
      rw [z, cond_false, e0, e1]
      simp only [Option.bind_some]
      rw [va_s ⟨a, b⟩ ⟨by show a.length ≤ 1000; omega, by show b.length ≤ 1000; omega⟩ N (by omega), Option.bind_some]
      cases vA ⟨a, b⟩ <;> rfl
    · next hne =>
      have z : (((spl 61 s).length : Int) != 2) = true := by
        rw [bne_iff_ne]
        intro e
        have hl : (spl 61 s).length = 2 := by omega
        match hm : spl 61 s, hl with
        | [a, b], _ => exact hne a b hm
      rw [z]; rfl
theorem tx_len (x : Abbr) : (tx x).length ≤ 40 := by
  unfold tx
  split
  · next h =>
    obtain ⟨a1, a2, a3⟩ := vA_facts h
    simp only [List.length_append, List.length_cons, List.length_nil]; omega
  · simp
theorem tx_read (x : Abbr) : (vA x = true ∧ rs (tx x) = (x, true) ∧ (tx x != []) = true) ∨ (rs (tx x) = (⟨[], []⟩, false) ∧ (tx x != []) = false) := by
  unfold tx
  by_cases h : vA x = true
  · rw [if_pos h]
    refine .inl ⟨h, rs_of (by simp) h, ?_⟩
    rw [bne_iff_ne]; simp
  · rw [if_neg h]
    exact .inr ⟨rfl, rfl⟩
end Go.Proofs.Ytpdcifgphocllaa
