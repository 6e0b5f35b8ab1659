/-
  Plain lemmas on these functions. No conditions but those that each states.
-/
import Derived.Test.YtpdcifgphocllaaFnAbbreviationsP3
namespace Go.Proofs.Ytpdcifgphocllaa
set_option linter.unusedVariables false
set_option linter.unusedSimpArgs false
/-! Words of a text. -/
def sw : Str → Str → List Str
  | [], cur => if cur = [] then [] else [cur]
  | c :: r, cur => if c = 32 then (if cur = [] then sw r [] else cur :: sw r []) else sw r (cur ++ [c])
theorem sw_word : ∀ (u : Str), (∀ c ∈ u, c ≠ 32) → ∀ (r cur : Str), sw (u ++ r) cur = sw r (cur ++ u)
  | [], _, r, cur => by simp
  | c :: u, h, r, cur => by
    rw [List.cons_append, sw, if_neg (h c List.mem_cons_self), sw_word u (fun x hx => h x (List.mem_cons_of_mem _ hx))]
    simp
theorem sp_l1 (s : Str) (hs : s.length ≤ 200) (Q : Option (List Str) → Prop) (kj : List Str → Int → Option (List Str)) (R : List Str)
    (k1 : ∀ (acc : List Str) (x0 : Nat), x0 < s.length → s.drop x0 ≠ [] → acc ++ [s.drop x0] = R → acc.length ≤ s.length → Q (kj acc (x0 : Int))) (k2 : ∀ acc : List Str, acc = R → Q (kj acc (-1))) : ∀ (q x N : Nat) (acc : List Str), x + q = s.length → q < N → acc.length ≤ x →
      (acc ++ sw (s.drop x) [] = R → Q (i_SplitWords_l1 kj s N acc (-1) (x : Int))) ∧
      (∀ x0, x0 < x → acc ++ sw (s.drop x) ((s.drop x0).take (x - x0)) = R → Q (i_SplitWords_l1 kj s N acc (x0 : Int) (x : Int))) := by
  intro q
  induction q with
  | zero =>
    intro x N acc hx hN ha
    obtain ⟨N, rfl⟩ := pos_fuel hN
    rw [List.drop_eq_nil_of_le (show s.length ≤ x by omega)]
    refine ⟨fun h => ?_, fun x0 hx0 h => ?_⟩
    · rw [i_SplitWords_l1, decide_eq_false (by omega : ¬ (x : Int) < (s.length : Int)), cond_false]
      simp only [sw, if_true, List.append_nil] at h
      exact k2 acc h
    · rw [i_SplitWords_l1, decide_eq_false (by omega : ¬ (x : Int) < (s.length : Int)), cond_false]
      have ht : (s.drop x0).take (x - x0) = s.drop x0 := List.take_of_length_le (by rw [List.length_drop]; omega)
      have hne : s.drop x0 ≠ [] := fun e => by have := congrArg List.length e; rw [List.length_drop, List.length_nil] at this; omega
      rw [ht] at h
      simp only [sw, if_neg hne] at h
      exact k1 acc x0 (by omega) hne h (by omega)
  | succ q ih =>
    intro x N acc hx hN ha
    obtain ⟨N, rfl⟩ := pos_fuel hN
    have hlt : x < s.length := by omega
    obtain ⟨g1, g2⟩ := ih (x + 1) N acc (by omega) (by omega) (by omega)
    have hwx := w64_nat x (by omega)
    have hd := List.drop_eq_getElem_cons hlt
    have hdx := idx_lt s x hlt
    generalize hce : s[x] = c at hd hdx
    refine ⟨fun h => ?_, fun x0 hx0 h => ?_⟩
    · rw [i_SplitWords_l1, decide_eq_true (by omega : (x : Int) < (s.length : Int)), cond_true]
      simp only [withK_n]
      rw [hdx]
      simp only [Option.bind_some]
      rw [show decide ((-1 : Int) ≥ 0) = false from rfl, show decide ((-1 : Int) < 0) = true from rfl, andO_some, Bool.and_false, Option.bind_some, cond_false, andO_some, Bool.and_true, Option.bind_some, hwx]
      rw [hd, sw] at h
      by_cases hc : c = 32
      · rw [if_pos hc, if_pos rfl] at h
        rw [hc, bne_self_eq_false', cond_false]
        exact g1 h
      · rw [if_neg hc] at h
        rw [bne_iff_ne.2 hc, cond_true]
        refine g2 x (by omega) ?_
        rw [hd, show x + 1 - x = 1 by omega]
        simpa using h
    · rw [i_SplitWords_l1, decide_eq_true (by omega : (x : Int) < (s.length : Int)), cond_true]
      simp only [withK_n]
      rw [hdx]
      simp only [Option.bind_some]
      have hne : (s.drop x0).take (x - x0) ≠ [] := fun e => by have := congrArg List.length e; rw [List.length_take, List.length_drop, List.length_nil] at this; omega
      rw [decide_eq_true (by omega : (x0 : Int) ≥ 0), decide_eq_false (by omega : ¬ (x0 : Int) < 0), andO_some, Bool.and_true, Option.bind_some, andO_some, Bool.and_false, Option.bind_some, cond_false, hwx]
      rw [hd, sw] at h
      by_cases hc : c = 32
      · rw [if_pos hc, if_neg hne] at h
        have hsub : sub s (x0 : Int) (x : Int) = some ((s.drop x0).take (x - x0)) := by
          rw [sub_some s _ _ (by omega) (by omega) (by omega), Int.toNat_natCast, Int.toNat_natCast]
        rw [hc, beq_self_eq_true, cond_true, hsub, Option.bind_some, app_some _ _ (by unfold LIM; simp; omega), Option.bind_some]
        refine (ih (x + 1) N (acc ++ [(s.drop x0).take (x - x0)]) (by omega) (by omega) (by simp; omega)).1 ?_
        rw [← h]; simp
      · rw [if_neg hc] at h
        rw [beq_eq_false_iff_ne.2 hc, cond_false]
        refine g2 x0 (by omega) ?_
        have e1 : (s.drop x0).take (x + 1 - x0) = (s.drop x0).take (x - x0) ++ [c] := by
          have hl0 : x - x0 < (s.drop x0).length := by rw [List.length_drop]; omega
          rw [show x + 1 - x0 = (x - x0) + 1 by omega, List.take_succ_eq_append_getElem hl0]
          congr 2
          rw [List.getElem_drop]
          rw [← hce]
          congr 1; omega
        rw [e1]
        exact h
theorem split_ok (s : Str) (hs : s.length ≤ 200) (N : Nat) (hN : 300 < N) : i_SplitWords N s = some (sw s []) := by
  unfold i_SplitWords
  rw [withK_n]
  simp only [withK_n]
  have := (sp_l1 s hs (fun o => o = some (sw s [])) (fun (l3 : List Str) (start5 : Int) => bif decide (start5 ≥ 0) then (sub s start5 (s.length : Int)).bind fun s41 => (app l3 [s41]).bind fun l44 => some l44 else some l3) (sw s []) (fun acc x0 h1 h2 h3 h4 => ?_) (fun acc h => ?_) s.length 0 N [] (by omega) (by omega) (Nat.le_refl _)).1 (by simp)
  · rw [show ((0 : Nat) : Int) = 0 from rfl] at this
    exact this
  · have hsub : sub s (x0 : Int) (s.length : Int) = some (s.drop x0) := by
      rw [sub_some s _ _ (by omega) (by omega) (by omega), Int.toNat_natCast, Int.toNat_natCast, List.take_of_length_le (by rw [List.length_drop]; omega)]
    rw [decide_eq_true (by omega : (x0 : Int) ≥ 0), cond_true, hsub, Option.bind_some, app_some _ _ (by unfold LIM; simp; omega), Option.bind_some, h3]
  · show (bif decide ((-1 : Int) ≥ 0) then _ else some acc) = _
    rw [show decide ((-1 : Int) ≥ 0) = false from rfl, cond_false, h]
/-! split -/
def spl (c : UInt8) (s : Str) : List Str := s.foldr (fun x l => if x = c then [] :: l else match l with | h :: t => (x :: h) :: t | [] => [[x]]) [[]]
theorem spl_cons_eq (c : UInt8) (r : Str) : spl c (c :: r) = [] :: spl c r := by unfold spl; rw [List.foldr_cons, if_pos rfl]
theorem spl_ne (c : UInt8) : ∀ s : Str, ∃ h t, spl c s = h :: t
  | [] => ⟨[], [], rfl⟩
  | x :: s => by
    obtain ⟨h, t, e⟩ := spl_ne c s
    unfold spl at e ⊢
    rw [List.foldr_cons, e]
    by_cases hx : x = c
    · exact ⟨_, _, by rw [if_pos hx]⟩
    · exact ⟨_, _, by rw [if_neg hx]⟩
theorem spl_cons_ne (c x : UInt8) (r : Str) (hx : x ≠ c) (h : Str) (t : List Str) (e : spl c r = h :: t) : spl c (x :: r) = (x :: h) :: t := by
  unfold spl at e ⊢
  rw [List.foldr_cons, if_neg hx, e]
theorem spl_word (c : UInt8) : ∀ (w r : Str), c ∉ w → spl c (w ++ c :: r) = w :: spl c r
  | [], r, _ => spl_cons_eq c r
  | x :: w, r, h => by
    have hx : x ≠ c := fun e => h (by simp [e])
    rw [List.cons_append]
    exact spl_cons_ne c x _ hx w _ (spl_word c w r (fun hm => h (by simp [hm])))
theorem spl_last (c : UInt8) : ∀ (w : Str), c ∉ w → spl c w = [w]
  | [], _ => rfl
  | x :: w, h => spl_cons_ne c x w (fun e => h (by simp [e])) w [] (spl_last c w (fun hm => h (by simp [hm])))
def joi (c : UInt8) : List Str → Str
  | [] => []
  | [w] => w
  | w :: v :: r => w ++ c :: joi c (v :: r)
theorem joi_spl (c : UInt8) : ∀ s : Str, joi c (spl c s) = s
  | [] => rfl
  | x :: s => by
    obtain ⟨h, t, e⟩ := spl_ne c s
    have ih := joi_spl c s
    by_cases hx : x = c
    · subst hx
      rw [spl_cons_eq, e, joi, ← e, ih]
      rfl
    · rw [spl_cons_ne c x s hx h t e]
      rw [e] at ih
      cases t with
      | nil => simp only [joi] at ih ⊢; rw [ih]
      | cons v t => simp only [joi] at ih ⊢; rw [← ih]; rfl
theorem spl_len (c : UInt8) : ∀ s : Str, (spl c s).length ≤ s.length + 1
  | [] => Nat.le_refl _
  | x :: s => by
    obtain ⟨h, t, e⟩ := spl_ne c s
    have ih := spl_len c s
    by_cases hx : x = c
    · subst hx; rw [spl_cons_eq]; simp; exact ih
    · rw [spl_cons_ne c x s hx h t e]; rw [e] at ih; simp at ih ⊢; omega
theorem spl_l1 (s : Str) (c : UInt8) (hs : s.length ≤ 1000) : ∀ (n i N fr : Nat) (acc : List Str) (h : Str) (t : List Str), i + n = s.length → n < N → fr ≤ i → acc.length ≤ i → spl c (s.drop i) = h :: t →
    s_l01Split_l1 (fun l4 from6 => (sub s from6 (List.length s : Int)).bind fun s28 => (app l4 [s28]).bind fun l31 => some l31) s c N acc (fr : Int) (i : Int) = some (acc ++ ((s.drop fr).take (i - fr) ++ h) :: t) := by
  intro n
  induction n with
  | zero =>
    intro i N fr acc h t h1 h2 h3 h4 h5
    obtain ⟨N, rfl⟩ := pos_fuel h2
    have hi : ¬ ((i : Int) < (s.length : Int)) := by omega
    rw [List.drop_of_length_le (by omega)] at h5
    have e : h = [] ∧ t = [] := by
      have : spl c [] = [[]] := rfl
      rw [this] at h5
      injection h5 with a b
      exact ⟨a.symm, b.symm⟩
    have q : sub s (fr : Int) (s.length : Int) = some ((s.drop fr).take (i - fr)) := by
      rw [sub_some _ _ _ (by omega) (by omega) (by omega)]
      congr 2
      simp only [Int.toNat_natCast]
      omega
    simp only [s_l01Split_l1, hi, decide_false, cond_false, q, Option.bind_some]
    rw [app_some _ _ (by unfold LIM; simp; omega), e.1, e.2, List.append_nil]
    rfl
  | succ n ih =>
    intro i N fr acc h t h1 h2 h3 h4 h5
    obtain ⟨N, rfl⟩ := pos_fuel h2
    have hi : (i : Int) < (s.length : Int) := by omega
    have hil : i < s.length := by omega
    rw [List.drop_eq_getElem_cons hil] at h5
    obtain ⟨h', t', e'⟩ := spl_ne c (s.drop (i + 1))
    simp only [s_l01Split_l1, hi, decide_true, cond_true, withK_eq, idx_lt s i hil, Option.bind_some, w64_nat i (by omega)]
    by_cases hc : s[i] = c
    · have hb : (s[i] == c) = true := by simpa using hc
      have q : sub s (fr : Int) (i : Int) = some ((s.drop fr).take (i - fr)) := by
        rw [sub_some _ _ _ (by omega) (by omega) (by omega)]
        congr 2
      rw [hc, spl_cons_eq, e'] at h5
      injection h5 with a b
      rw [hb, cond_true, q, Option.bind_some, app_some _ _ (by unfold LIM; simp; omega), Option.bind_some]
      rw [ih (i + 1) N (i + 1) _ h' t' (by omega) (by omega) (by omega) (by simp; omega) e', ← a, ← b]
      simp
    · have hb : (s[i] == c) = false := by simpa using hc
      rw [spl_cons_ne c s[i] _ hc h' t' e'] at h5
      injection h5 with a b
      rw [hb, cond_false, ih (i + 1) N fr _ h' t' (by omega) (by omega) (by omega) (by omega) e', ← a, ← b]
      congr 2
      have hx : (s.drop fr).take (i + 1 - fr) = (s.drop fr).take (i - fr) ++ [s[i]] := by
        rw [show i + 1 - fr = (i - fr) + 1 by omega, List.take_succ_eq_append_getElem (by simp; omega)]
        congr 2
        rw [List.getElem_drop]
        congr 1
        omega
      rw [hx]
      simp
theorem Split_ok (N : Nat) (s : Str) (c : UInt8) (hs : s.length ≤ 1000) (hN : 1100 ≤ N) : s_l01Split N s c = some (spl c s) := by
  obtain ⟨h, t, e⟩ := spl_ne c s
  have := spl_l1 s c hs s.length 0 N 0 [] h t (by omega) (by omega) (by omega) (by simp) (by simpa using e)
  unfold s_l01Split
  simp only [withK_eq]
  rw [show ((0 : Nat) : Int) = 0 from rfl] at this
  rw [this, e]
  simp
end Go.Proofs.Ytpdcifgphocllaa
