/-
  Plain lemmas on these functions. No conditions but those that each states.
-/
import Derived.Test.YtppdmciboalhfaaDoorFnSpeedsP3
namespace Go.Proofs.YtppdmciboalhfaaDoor
set_option linter.unusedVariables false
set_option linter.unusedSimpArgs false
/-! Texts that are cut, and split. -/
theorem cut_none (s sep : Str) (hs : s.length ≤ 1000) (hp : 1 ≤ sep.length) (hsep : sep.length ≤ 100) : ∀ (n i N : Nat), i + n = s.length + 1 → n + 5 < N →
    ∃ r, i_cut_l1 (some (s, [], false)) s sep N (i : Int) = some r ∧ (r.2.2 = true → s = r.1 ++ sep ++ r.2.1) ∧ r.1.length ≤ s.length ∧ r.2.1.length ≤ s.length := by
  intro n
  induction n with
  | zero =>
    intro i N h1 h2
    obtain ⟨N, rfl⟩ := pos_fuel (show 0 < N by omega)
    have e : w64 ((i : Int) + (sep.length : Int)) = ((i + sep.length : Nat) : Int) := by rw [w64_id (by omega) (by omega)]; omega
    have hn : ¬ (((i + sep.length : Nat) : Int) ≤ (s.length : Int)) := by omega
    exact ⟨(s, [], false), by simp only [i_cut_l1, e, hn, decide_false, cond_false], fun h => (by cases h), Nat.le_refl _, Nat.zero_le _⟩
  | succ n ih =>
    intro i N h1 h2
    obtain ⟨N, rfl⟩ := pos_fuel (show 0 < N by omega)
    have e : w64 ((i : Int) + (sep.length : Int)) = ((i + sep.length : Nat) : Int) := by rw [w64_id (by omega) (by omega)]; omega
    by_cases hn : ((i + sep.length : Nat) : Int) ≤ (s.length : Int)
    · have q1 : sub s (i : Int) ((i + sep.length : Nat) : Int) = some ((s.drop i).take sep.length) := by
        rw [sub_some _ _ _ (by omega) (by omega) (by omega)]
        congr 2
        omega
      have q2 : sub s 0 (i : Int) = some (s.take i) := by
        rw [sub_some _ _ _ (by omega) (by omega) (by omega)]
        simp
      have q3 : sub s ((i + sep.length : Nat) : Int) (s.length : Int) = some (s.drop (i + sep.length)) := by
        rw [sub_some _ _ _ (by omega) (by omega) (by omega)]
        congr 1
        simp only [Int.toNat_natCast]
        rw [List.take_of_length_le (by simp)]
      simp only [i_cut_l1, e, hn, decide_true, cond_true, q1, q2, q3, Option.bind_some, w64_nat i (by omega)]
      cases hb : ((s.drop i).take sep.length == sep) with
      | true =>
        refine ⟨_, rfl, fun _ => ?_, List.length_take_le' _ _, by rw [List.length_drop]; exact Nat.sub_le _ _⟩
        have hb' : (s.drop i).take sep.length = sep := by simpa using hb
        show s = s.take i ++ sep ++ s.drop (i + sep.length)
        rw [List.append_assoc, show s.drop (i + sep.length) = (s.drop i).drop sep.length by rw [List.drop_drop]]
        conv => lhs; rw [← List.take_append_drop i s]
        congr 1
        conv => lhs; rw [← List.take_append_drop sep.length (s.drop i), hb']
      | false => exact ih (i + 1) N (by omega) (by omega)
    · exact ⟨(s, [], false), by simp only [i_cut_l1, e, hn, decide_false, cond_false], fun h => (by cases h), Nat.le_refl _, Nat.zero_le _⟩
theorem cut_ok (N : Nat) (s sep : Str) (hs : s.length ≤ 1000) (hp : 1 ≤ sep.length) (hsep : sep.length ≤ 100) (hN : 1100 ≤ N) : ∃ r, i_cut N s sep = some r ∧ (r.2.2 = true → s = r.1 ++ sep ++ r.2.1) ∧ r.1.length ≤ s.length ∧ r.2.1.length ≤ s.length := by
  obtain ⟨r, e, h⟩ := cut_none s sep hs hp hsep (s.length + 1) 0 N (by omega) (by omega)
  refine ⟨r, ?_, h⟩
  unfold i_cut
  simp only [withK_eq]
  exact e
/-- the first place of a separator of which the first byte is nowhere before -/
theorem cut_at (a b sep : Str) (c : UInt8) (t : Str) (hsep : sep = c :: t) (ha : c ∉ a) (hs : (a ++ sep ++ b).length ≤ 1000) (kj : Option (Str × Str × Bool)) : ∀ (n i N : Nat), i + n = a.length → n < N → i_cut_l1 kj (a ++ sep ++ b) sep N (i : Int) = some (a, b, true) := by
  have hpl : 1 ≤ sep.length := by rw [hsep]; simp
  intro n
  induction n with
  | zero =>
    intro i N h1 h2
    obtain ⟨N, rfl⟩ := pos_fuel h2
    obtain rfl : i = a.length := by omega
    simp only [List.length_append] at hs
    have e : w64 ((a.length : Int) + (sep.length : Int)) = ((a.length + sep.length : Nat) : Int) := by rw [w64_id (by omega) (by omega)]; omega
    have hn : ((a.length + sep.length : Nat) : Int) ≤ ((a ++ sep ++ b).length : Int) := by simp; omega
    have q1 : sub (a ++ sep ++ b) (a.length : Int) ((a.length + sep.length : Nat) : Int) = some sep := by
      rw [sub_some _ _ _ (by omega) (by omega) (by omega)]
      congr 1
      simp only [Int.toNat_natCast]
      rw [List.append_assoc, List.drop_left, show a.length + sep.length - a.length = sep.length by omega, List.take_left]
    have q2 : sub (a ++ sep ++ b) 0 (a.length : Int) = some a := by
      rw [sub_some _ _ _ (by omega) (by omega) (by simp; omega)]
      simp
    have q3 : sub (a ++ sep ++ b) ((a.length + sep.length : Nat) : Int) ((a ++ sep ++ b).length : Int) = some b := by
      rw [sub_some _ _ _ (by omega) (by omega) (by omega)]
      congr 1
      simp only [Int.toNat_natCast]
      rw [show a.length + sep.length = (a ++ sep).length by simp, List.drop_left, List.take_of_length_le (by simp; omega)]
    simp only [i_cut_l1, e, hn, decide_true, cond_true, q1, q2, q3, Option.bind_some, beq_self_eq_true]
  | succ n ih =>
    intro i N h1 h2
    obtain ⟨N, rfl⟩ := pos_fuel h2
    simp only [List.length_append] at hs
    have e : w64 ((i : Int) + (sep.length : Int)) = ((i + sep.length : Nat) : Int) := by rw [w64_id (by omega) (by omega)]; omega
    have hn : ((i + sep.length : Nat) : Int) ≤ ((a ++ sep ++ b).length : Int) := by simp; omega
    have hil : i < a.length := by omega
    have q1 : sub (a ++ sep ++ b) (i : Int) ((i + sep.length : Nat) : Int) = some (((a ++ sep ++ b).drop i).take sep.length) := by
      rw [sub_some _ _ _ (by omega) (by omega) (by omega)]
      congr 2
      omega
    have hne : (((a ++ sep ++ b).drop i).take sep.length == sep) = false := by
      rw [beq_eq_false_iff_ne]
      intro he
      have h0 := congrArg (fun l => l[0]?) he
      rw [List.getElem?_take, if_pos (by omega), List.getElem?_drop, Nat.add_zero, List.append_assoc, List.getElem?_append_left hil, List.getElem?_eq_getElem hil] at h0
      rw [hsep] at h0
      simp at h0
      exact ha (h0 ▸ List.getElem_mem hil)
    have := ih (i + 1) N (by omega) (by omega)
    simp only [i_cut_l1, e, hn, decide_true, cond_true, q1, Option.bind_some, hne, cond_false, w64_nat i (by omega), this]
theorem cut_found (N : Nat) (a b sep : Str) (c : UInt8) (t : Str) (hsep : sep = c :: t) (ha : c ∉ a) (hs : (a ++ sep ++ b).length ≤ 1000) (hN : 1100 ≤ N) : i_cut N (a ++ sep ++ b) sep = some (a, b, true) := by
  have := cut_at a b sep c t hsep ha hs (some (a ++ sep ++ b, [], false)) a.length 0 N (by omega) (by simp at hs; omega)
  unfold i_cut
  simp only [withK_eq]
  exact this
theorem suffix_ok (s : Str) (hs : s.length ≤ 1000) : ∃ r, strings_CutSuffix s [115] = some r ∧ (r.2 = true → s = r.1 ++ [115]) ∧ r.1.length ≤ s.length := by
  unfold strings_CutSuffix stringslite_CutSuffix stringslite_HasSuffix
  have e1 : (([115] : Str).length : Int) = 1 := rfl
  rw [e1]
  by_cases h : (s.length : Int) ≥ 1
  · have ew : w64 ((s.length : Int) - 1) = ((s.length - 1 : Nat) : Int) := by rw [w64_id (by omega) (by omega)]; omega
    have q1 : sub s ((s.length - 1 : Nat) : Int) (s.length : Int) = some (s.drop (s.length - 1)) := by
      rw [sub_some _ _ _ (by omega) (by omega) (by omega)]
      congr 1
      simp only [Int.toNat_natCast]
      rw [List.take_of_length_le (by simp)]
    have q2 : sub s 0 ((s.length - 1 : Nat) : Int) = some (s.take (s.length - 1)) := by
      rw [sub_some _ _ _ (by omega) (by omega) (by omega)]
      simp
    simp only [h, decide_true, andO_true, ew, q1, Option.bind_some]
    cases hb : (s.drop (s.length - 1) == [115]) with
    | true =>
      have hb' : s.drop (s.length - 1) = [115] := by simpa using hb
      simp only [Bool.not_true, cond_false, q2, Option.bind_some]
      refine ⟨_, rfl, fun _ => ?_, List.length_take_le' _ _⟩
      show s = s.take (s.length - 1) ++ [115]
      conv => lhs; rw [← List.take_append_drop (s.length - 1) s, hb']
    | false => exact ⟨(s, false), rfl, fun h => (by cases h), Nat.le_refl _⟩
  · have h' : decide ((s.length : Int) ≥ 1) = false := by simp; omega
    rw [h']
    exact ⟨(s, false), rfl, fun h => (by cases h), Nat.le_refl _⟩
theorem suffix_at (a : Str) (ha : a.length ≤ 900) : strings_CutSuffix (a ++ [115]) [115] = some (a, true) := by
  unfold strings_CutSuffix stringslite_CutSuffix stringslite_HasSuffix
  have e1 : (([115] : Str).length : Int) = 1 := rfl
  rw [e1]
  have h : ((a ++ [115]).length : Int) ≥ 1 := by simp; omega
  have ew : w64 (((a ++ [115]).length : Int) - 1) = (a.length : Int) := by simp only [List.length_append, List.length_singleton]; rw [w64_id (by omega) (by omega)]; omega
  have q1 : sub (a ++ [115]) (a.length : Int) ((a ++ [115]).length : Int) = some [115] := by
    rw [sub_some _ _ _ (by omega) (by simp; omega) (by omega)]
    simp
  have q2 : sub (a ++ [115]) 0 (a.length : Int) = some a := by
    rw [sub_some _ _ _ (by omega) (by omega) (by simp; omega)]
    simp
  simp only [h, decide_true, andO_true, ew, q1, Option.bind_some, beq_self_eq_true, Bool.not_true, cond_false, q2]
/-! split -/
def spl (c : UInt8) (s : Str) : List Str := s.foldr (fun x l => if x = c then [] :: l else match l with | h :: t => (x :: h) :: t | [] => [[x]]) [[]]
theorem spl_cons_eq (c : UInt8) (r : Str) : spl c (c :: r) = [] :: spl c r := by unfold spl; rw [List.foldr_cons, if_pos rfl]
theorem spl_ne (c : UInt8) : ∀ s : Str, ∃ h t, spl c s = h :: t
  | [] => ⟨[], [], rfl⟩
  | x :: s => by
    obtain ⟨h, t, e⟩ := spl_ne c s
    unfold spl at e ⊢
    rw [List.foldr_cons, e]
    by_cases hx : x = c
    · exact ⟨_, _, by rw [if_pos hx]⟩
    · exact ⟨_, _, by rw [if_neg hx]⟩
theorem spl_cons_ne (c x : UInt8) (r : Str) (hx : x ≠ c) (h : Str) (t : List Str) (e : spl c r = h :: t) : spl c (x :: r) = (x :: h) :: t := by
  unfold spl at e ⊢
  rw [List.foldr_cons, if_neg hx, e]
theorem spl_word (c : UInt8) : ∀ (w r : Str), c ∉ w → spl c (w ++ c :: r) = w :: spl c r
  | [], r, _ => spl_cons_eq c r
  | x :: w, r, h => by
    have hx : x ≠ c := fun e => h (by simp [e])
    rw [List.cons_append]
    exact spl_cons_ne c x _ hx w _ (spl_word c w r (fun hm => h (by simp [hm])))
theorem spl_last (c : UInt8) : ∀ (w : Str), c ∉ w → spl c w = [w]
  | [], _ => rfl
  | x :: w, h => spl_cons_ne c x w (fun e => h (by simp [e])) w [] (spl_last c w (fun hm => h (by simp [hm])))
def joi (c : UInt8) : List Str → Str
  | [] => []
  | [w] => w
  | w :: v :: r => w ++ c :: joi c (v :: r)
theorem joi_spl (c : UInt8) : ∀ s : Str, joi c (spl c s) = s
  | [] => rfl
  | x :: s => by
    obtain ⟨h, t, e⟩ := spl_ne c s
    have ih := joi_spl c s
    by_cases hx : x = c
    · subst hx
      rw [spl_cons_eq, e, joi, ← e, ih]
      rfl
    · rw [spl_cons_ne c x s hx h t e]
      rw [e] at ih
      cases t with
      | nil => simp only [joi] at ih ⊢; rw [ih]
      | cons v t => simp only [joi] at ih ⊢; rw [← ih]; rfl
theorem spl_len (c : UInt8) : ∀ s : Str, (spl c s).length ≤ s.length + 1
  | [] => Nat.le_refl _
  | x :: s => by
    obtain ⟨h, t, e⟩ := spl_ne c s
    have ih := spl_len c s
    by_cases hx : x = c
    · subst hx; rw [spl_cons_eq]; simp; exact ih
    · rw [spl_cons_ne c x s hx h t e]; rw [e] at ih; simp at ih ⊢; omega
theorem spl_l1 (s : Str) (c : UInt8) (hs : s.length ≤ 1000) : ∀ (n i N fr : Nat) (acc : List Str) (h : Str) (t : List Str), i + n = s.length → n < N → fr ≤ i → acc.length ≤ i → spl c (s.drop i) = h :: t →
    s_l01Split_l1 (fun l4 from6 => (sub s from6 (List.length s : Int)).bind fun s28 => (app l4 [s28]).bind fun l31 => some l31) s c N acc (fr : Int) (i : Int) = some (acc ++ ((s.drop fr).take (i - fr) ++ h) :: t) := by
  intro n
  induction n with
  | zero =>
    intro i N fr acc h t h1 h2 h3 h4 h5
    obtain ⟨N, rfl⟩ := pos_fuel h2
    have hi : ¬ ((i : Int) < (s.length : Int)) := by omega
    rw [List.drop_of_length_le (by omega)] at h5
    have e : h = [] ∧ t = [] := by
      have : spl c [] = [[]] := rfl
      rw [this] at h5
      injection h5 with a b
      exact ⟨a.symm, b.symm⟩
    have q : sub s (fr : Int) (s.length : Int) = some ((s.drop fr).take (i - fr)) := by
      rw [sub_some _ _ _ (by omega) (by omega) (by omega)]
      congr 2
      simp only [Int.toNat_natCast]
      omega
    simp only [s_l01Split_l1, hi, decide_false, cond_false, q, Option.bind_some]
    rw [app_some _ _ (by unfold LIM; simp; omega), e.1, e.2, List.append_nil]
    rfl
  | succ n ih =>
    intro i N fr acc h t h1 h2 h3 h4 h5
    obtain ⟨N, rfl⟩ := pos_fuel h2
    have hi : (i : Int) < (s.length : Int) := by omega
    have hil : i < s.length := by omega
    rw [List.drop_eq_getElem_cons hil] at h5
    obtain ⟨h', t', e'⟩ := spl_ne c (s.drop (i + 1))
    simp only [s_l01Split_l1, hi, decide_true, cond_true, withK_eq, idx_lt s i hil, Option.bind_some, w64_nat i (by omega)]
    by_cases hc : s[i] = c
    · have hb : (s[i] == c) = true := by simpa using hc
      have q : sub s (fr : Int) (i : Int) = some ((s.drop fr).take (i - fr)) := by
        rw [sub_some _ _ _ (by omega) (by omega) (by omega)]
        congr 2
      rw [hc, spl_cons_eq, e'] at h5
      injection h5 with a b
      rw [hb, cond_true, q, Option.bind_some, app_some _ _ (by unfold LIM; simp; omega), Option.bind_some]
      rw [ih (i + 1) N (i + 1) _ h' t' (by omega) (by omega) (by omega) (by simp; omega) e', ← a, ← b]
      simp
    · have hb : (s[i] == c) = false := by simpa using hc
      rw [spl_cons_ne c s[i] _ hc h' t' e'] at h5
      injection h5 with a b
      rw [hb, cond_false, ih (i + 1) N fr _ h' t' (by omega) (by omega) (by omega) (by omega) e', ← a, ← b]
      congr 2
      have hx : (s.drop fr).take (i + 1 - fr) = (s.drop fr).take (i - fr) ++ [s[i]] := by
        rw [show i + 1 - fr = (i - fr) + 1 by omega, List.take_succ_eq_append_getElem (by simp; omega)]
        congr 2
        rw [List.getElem_drop]
        congr 1
        omega
      rw [hx]
      simp
theorem Split_ok (N : Nat) (s : Str) (c : UInt8) (hs : s.length ≤ 1000) (hN : 1100 ≤ N) : s_l01Split N s c = some (spl c s) := by
  obtain ⟨h, t, e⟩ := spl_ne c s
  have := spl_l1 s c hs s.length 0 N 0 [] h t (by omega) (by omega) (by omega) (by simp) (by simpa using e)
  unfold s_l01Split
  simp only [withK_eq]
  rw [show ((0 : Nat) : Int) = 0 from rfl] at this
  rw [this, e]
  simp
end Go.Proofs.YtppdmciboalhfaaDoor
