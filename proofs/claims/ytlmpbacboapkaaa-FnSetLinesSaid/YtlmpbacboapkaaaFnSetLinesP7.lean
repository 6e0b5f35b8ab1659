/-
  Plain lemmas on these functions. No conditions but those that each states.
-/
import Derived.Test.YtlmpbacboapkaaaFnSetLinesP6
namespace Go.Proofs.Ytlmpbacboapkaaa
set_option linter.unusedVariables false
set_option linter.unusedSimpArgs false
/-! The loops over lines. -/
theorem sp_l1 (s : Str) (hs : s.length ≤ 200) (Q : Option (List Str) → Prop) (kj : List Str → Int → Option (List Str)) (R : List Str)
    (k1 : ∀ (acc : List Str) (x0 : Nat), x0 < s.length → s.drop x0 ≠ [] → acc ++ [s.drop x0] = R → acc.length ≤ s.length → Q (kj acc (x0 : Int))) (k2 : ∀ acc : List Str, acc = R → Q (kj acc (-1))) : ∀ (q x N : Nat) (acc : List Str), x + q = s.length → q < N → acc.length ≤ x →
      (acc ++ sw (s.drop x) [] = R → Q (i_SplitWords_l1 kj s N acc (-1) (x : Int))) ∧
      (∀ x0, x0 < x → acc ++ sw (s.drop x) ((s.drop x0).take (x - x0)) = R → Q (i_SplitWords_l1 kj s N acc (x0 : Int) (x : Int))) := by
  intro q
  induction q with
  | zero =>
    intro x N acc hx hN ha
    obtain ⟨N, rfl⟩ := pos_fuel hN
    rw [List.drop_eq_nil_of_le (show s.length ≤ x by omega)]
    refine ⟨fun h => ?_, fun x0 hx0 h => ?_⟩
    · rw [i_SplitWords_l1, decide_eq_false (by omega : ¬ (x : Int) < (s.length : Int)), cond_false]
      simp only [sw, if_true, List.append_nil] at h
      exact k2 acc h
    · rw [i_SplitWords_l1, decide_eq_false (by omega : ¬ (x : Int) < (s.length : Int)), cond_false]
      have ht : (s.drop x0).take (x - x0) = s.drop x0 := List.take_of_length_le (by rw [List.length_drop]; omega)
      have hne : s.drop x0 ≠ [] := fun e => by have := congrArg List.length e; rw [List.length_drop, List.length_nil] at this; omega
      rw [ht] at h
      simp only [sw, if_neg hne] at h
      exact k1 acc x0 (by omega) hne h (by omega)
  | succ q ih =>
    intro x N acc hx hN ha
    obtain ⟨N, rfl⟩ := pos_fuel hN
    have hlt : x < s.length := by omega
    obtain ⟨g1, g2⟩ := ih (x + 1) N acc (by omega) (by omega) (by omega)
    have hwx := w64_nat x (by omega)
    have hd := List.drop_eq_getElem_cons hlt
    have hdx := idx_lt s x hlt
    generalize hce : s[x] = c at hd hdx
    refine ⟨fun h => ?_, fun x0 hx0 h => ?_⟩
    · rw [i_SplitWords_l1, decide_eq_true (by omega : (x : Int) < (s.length : Int)), cond_true]
      simp only [withK_n]
      rw [hdx]
      simp only [Option.bind_some]
      rw [show decide ((-1 : Int) ≥ 0) = false from rfl, show decide ((-1 : Int) < 0) = true from rfl, andO_some, Bool.and_false, Option.bind_some, cond_false, andO_some, Bool.and_true, Option.bind_some, hwx]
      rw [hd, sw] at h
      by_cases hc : c = 32
      · rw [if_pos hc, if_pos rfl] at h
        rw [hc, bne_self_eq_false', cond_false]
        exact g1 h
      · rw [if_neg hc] at h
        rw [bne_iff_ne.2 hc, cond_true]
        refine g2 x (by omega) ?_
        rw [hd, show x + 1 - x = 1 by omega]
        simpa using h
    · rw [i_SplitWords_l1, decide_eq_true (by omega : (x : Int) < (s.length : Int)), cond_true]
      simp only [withK_n]
      rw [hdx]
      simp only [Option.bind_some]
      have hne : (s.drop x0).take (x - x0) ≠ [] := fun e => by have := congrArg List.length e; rw [List.length_take, List.length_drop, List.length_nil] at this; omega
      rw [decide_eq_true (by omega : (x0 : Int) ≥ 0), decide_eq_false (by omega : ¬ (x0 : Int) < 0), andO_some, Bool.and_true, Option.bind_some, andO_some, Bool.and_false, Option.bind_some, cond_false, hwx]
      rw [hd, sw] at h
      by_cases hc : c = 32
      · rw [if_pos hc, if_neg hne] at h
        have hsub : sub s (x0 : Int) (x : Int) = some ((s.drop x0).take (x - x0)) := by
          rw [sub_some s _ _ (by omega) (by omega) (by omega), Int.toNat_natCast, Int.toNat_natCast]
        rw [hc, beq_self_eq_true, cond_true, hsub, Option.bind_some, app_some _ _ (by unfold LIM; simp; omega), Option.bind_some]
        refine (ih (x + 1) N (acc ++ [(s.drop x0).take (x - x0)]) (by omega) (by omega) (by simp; omega)).1 ?_
        rw [← h]; simp
      · rw [if_neg hc] at h
        rw [beq_eq_false_iff_ne.2 hc, cond_false]
        refine g2 x0 (by omega) ?_
        have e1 : (s.drop x0).take (x + 1 - x0) = (s.drop x0).take (x - x0) ++ [c] := by
          have hl0 : x - x0 < (s.drop x0).length := by rw [List.length_drop]; omega
          rw [show x + 1 - x0 = (x - x0) + 1 by omega, List.take_succ_eq_append_getElem hl0]
          congr 2
          rw [List.getElem_drop]
          rw [← hce]
          congr 1; omega
        rw [e1]
        exact h
theorem split_ok (s : Str) (hs : s.length ≤ 200) (N : Nat) (hN : 300 < N) : i_SplitWords N s = some (sw s []) := by
  unfold i_SplitWords
  rw [withK_n]
  simp only [withK_n]
  have := (sp_l1 s hs (fun o => o = some (sw s [])) (fun (l3 : List Str) (start5 : Int) => bif decide (start5 ≥ 0) then (sub s start5 (s.length : Int)).bind fun s41 => (app l3 [s41]).bind fun l44 => some l44 else some l3) (sw s []) (fun acc x0 h1 h2 h3 h4 => ?_) (fun acc h => ?_) s.length 0 N [] (by omega) (by omega) (Nat.le_refl _)).1 (by simp)
  · rw [show ((0 : Nat) : Int) = 0 from rfl] at this
    exact this
  · have hsub : sub s (x0 : Int) (s.length : Int) = some (s.drop x0) := by
      rw [sub_some s _ _ (by omega) (by omega) (by omega), Int.toNat_natCast, Int.toNat_natCast, List.take_of_length_le (by rw [List.length_drop]; omega)]
    rw [decide_eq_true (by omega : (x0 : Int) ≥ 0), cond_true, hsub, Option.bind_some, app_some _ _ (by unfold LIM; simp; omega), Option.bind_some, h3]
  · show (bif decide ((-1 : Int) ≥ 0) then _ else some acc) = _
    rw [show decide ((-1 : Int) ≥ 0) = false from rfl, cond_false, h]
def LN (s : Str) : Prop := s.length ≤ 80 ∧ CL s
theorem wl_l1 (ls : List Str) (hl : ls.length ≤ 40) (h : ∀ s ∈ ls, LN s) (kj : List Str → Option (List Str × Int)) : ∀ (q x N : Nat) (acc : List Str), x + q = ls.length → q + 400 < N → acc.length ≤ 80 * x → i_WordsOfLines_l1 kj ls N acc (x : Int) = kj (acc ++ (ls.drop x).flatMap fun s => sw s []) := by
  have swl : ∀ (s cur : Str), (sw s cur).length ≤ s.length + 1 := by
    intro s
    induction s with
    | nil => intro cur; simp only [sw]; split <;> simp
    | cons c r ih =>
      intro cur
      simp only [sw]
      split
      · split
        · have := ih []; simp only [List.length_cons]; omega
        · have := ih []; simp only [List.length_cons]; omega
      · have := ih (cur ++ [c]); simp only [List.length_cons]; omega
  have sw0 : ∀ s : Str, (sw s []).length ≤ s.length := by
    intro s
    induction s with
    | nil => simp [sw]
    | cons c r ih =>
      simp only [sw]
      split
      · simp only [if_true]; simp only [List.length_cons]; omega
      · have := swl r ([] ++ [c]); simp only [List.length_cons]; omega
  intro q
  induction q with
  | zero =>
    intro x N acc hx hN ha
    obtain ⟨N, rfl⟩ := pos_fuel (show 0 < N by omega)
    rw [i_WordsOfLines_l1, decide_eq_false (by omega : ¬ (x : Int) < (ls.length : Int)), cond_false, List.drop_eq_nil_of_le (by omega)]
    simp
  | succ q ih =>
    intro x N acc hx hN ha
    obtain ⟨N, rfl⟩ := pos_fuel (show 0 < N by omega)
    have hlt : x < ls.length := by omega
    obtain ⟨g1, g2⟩ := h _ (List.getElem_mem hlt)
    have h0 := sw0 ls[x]
    rw [i_WordsOfLines_l1, decide_eq_true (by omega : (x : Int) < (ls.length : Int)), cond_true, idx_lt ls x hlt, Option.bind_some, isText_ok ls[x] 32 g2 80 (by omega) (by omega) N (by omega), Option.bind_some, Bool.not_true, cond_false, split_ok ls[x] (by omega) N (by omega), Option.bind_some, app_some _ _ (by unfold LIM; omega), Option.bind_some, w64_nat x (by omega), ih (x + 1) N _ (by omega) (by omega) (by rw [List.length_append]; omega), List.drop_eq_getElem_cons hlt, List.flatMap_cons, List.append_assoc]
theorem words_of (ls : List Str) (hl : ls.length ≤ 40) (h : ∀ s ∈ ls, LN s) (N : Nat) (hN : 600 < N) : i_WordsOfLines N ls = some (ls.flatMap (fun s => sw s []), 0) := by
  unfold i_WordsOfLines
  rw [decide_eq_false (by omega), cond_false, withK_n]
  have := wl_l1 ls hl h (fun l6 => some (l6, (0 : Int))) ls.length 0 N [] (by omega) (by omega) (by simp)
  rw [show ((0 : Nat) : Int) = 0 from rfl, List.drop_zero, List.nil_append] at this
  exact this
/-! Gaps, in the law. -/
theorem ge_l1 (s : Str) (hs : s.length ≤ 200) (kj : List Int → Option Bool) : ∀ (q x N n : Nat) (b : Bool) (acc : List Int), x + q = s.length → q < N → n ≤ x → acc.length ≤ x → w_a2Even_l1 kj s N acc (n : Int) b (x : Int) = kj (acc ++ toI (egaps (s.drop x) n b)) := by
  intro q
  induction q with
  | zero =>
    intro x N n b acc hx hN hn ha
    obtain ⟨N, rfl⟩ := pos_fuel hN
    rw [w_a2Even_l1, decide_eq_false (by omega : ¬ (x : Int) < (s.length : Int)), cond_false, List.drop_eq_nil_of_le (by omega)]
    simp [egaps, toI]
  | succ q ih =>
    intro x N n b acc hx hN hn ha
    obtain ⟨N, rfl⟩ := pos_fuel hN
    have hlt : x < s.length := by omega
    rw [w_a2Even_l1, decide_eq_true (by omega : (x : Int) < (s.length : Int)), cond_true]
    simp only [withK_n]
    rw [idx_lt s x hlt, Option.bind_some, w64_nat x (by omega), w64_nat n (by omega), List.drop_eq_getElem_cons hlt, egaps]
    by_cases hc : s[x] = 32
    · rw [if_pos hc, beq_iff_eq.2 hc, cond_true, ih (x + 1) N (n + 1) b acc (by omega) (by omega) (by omega) (by omega)]
    · rw [if_neg hc, beq_eq_false_iff_ne.2 hc, cond_false, andO_some, Option.bind_some]
      have z := ih (x + 1) N 0 true
      rw [show ((0 : Nat) : Int) = 0 from rfl] at z
      by_cases hb : 0 < n ∧ b = true
      · rw [if_pos hb, hb.2, decide_eq_true (by omega : (n : Int) > 0), Bool.and_self, cond_true, app_some _ _ (by unfold LIM; simp; omega), Option.bind_some, z _ (by omega) (by omega) (by omega) (by simp; omega)]
        simp [toI]
      · have : (decide ((n : Int) > 0) && b) = false := by
          rw [Bool.eq_false_iff]
          intro e
          rw [Bool.and_eq_true, decide_eq_true_eq] at e
          exact hb ⟨by omega, e.2⟩
        rw [if_neg hb, this, cond_false, z acc (by omega) (by omega) (by omega) (by omega)]
theorem ge_l2 (g : List Nat) (hl : g.length ≤ 200) (hb : ∀ a ∈ g, a ≤ 1000) (h1 : g.Pairwise fun a b => b ≤ a) (h2 : ∀ a ∈ g, ∀ b ∈ g, a ≤ b + 1) (kj : Option Bool) : ∀ (q x N : Nat), (x + q = g.length ∨ (q = 0 ∧ g.length ≤ x)) → q < N → 1 ≤ x → x ≤ 300 → w_a2Even_l2 kj (toI g) N (x : Int) = kj := by
  have htl : (toI g).length = g.length := by simp [toI]
  have hi : ∀ y, ∀ hy : y < g.length, idx (toI g) (y : Int) = some (g[y] : Int) := fun y hy => by
    rw [idx_lt _ y (by omega)]; simp [toI]
  intro q
  induction q with
  | zero =>
    intro x N hx hN h0 h00
    obtain ⟨N, rfl⟩ := pos_fuel hN
    rw [w_a2Even_l2, decide_eq_false (by omega : ¬ (x : Int) < ((toI g).length : Int)), cond_false]
  | succ q ih =>
    intro x N hx hN h0 h00
    obtain ⟨N, rfl⟩ := pos_fuel hN
    have hlt : x < g.length := by omega
    have e1 : w64 ((x : Int) - 1) = ((x - 1 : Nat) : Int) := by rw [w64_id (by omega) (by omega)]; omega
    have hp := List.pairwise_iff_getElem.1 h1 (x - 1) x (by omega) hlt (by omega)
    have hq := h2 _ (List.getElem_mem (show 0 < g.length by omega)) _ (List.getElem_mem hlt)
    have b1 := hb _ (List.getElem_mem hlt)
    have b2 := hb _ (List.getElem_mem (show 0 < g.length by omega))
    have hi0 := hi 0 (by omega)
    rw [show ((0 : Nat) : Int) = 0 from rfl] at hi0
    rw [w_a2Even_l2, decide_eq_true (by omega : (x : Int) < ((toI g).length : Int)), cond_true, e1, hi x hlt, hi (x - 1) (by omega), hi0]
    simp only [Option.bind_some]
    rw [decide_eq_false (by omega : ¬ (g[x] : Int) > (g[x - 1] : Int)), orO_false, w64_id (x := (g[0] : Int) - (g[x] : Int)) (by omega) (by omega), decide_eq_false (by omega), Option.bind_some, cond_false, w64_nat x (by omega)]
    exact ih (x + 1) N (by omega) (by omega) (by omega) (by omega)
theorem eg_len : ∀ (s : Str) (n : Nat) (b : Bool), (egaps s n b).length ≤ s.length ∧ ∀ a ∈ egaps s n b, a ≤ n + s.length
  | [], _, _ => ⟨Nat.le_refl _, fun a ha => by cases ha⟩
  | c :: r, n, b => by
    simp only [egaps]
    split
    · obtain ⟨h1, h2⟩ := eg_len r (n + 1) b
      simp only [List.length_cons]
      exact ⟨by omega, fun a ha => by have := h2 a ha; omega⟩
    · obtain ⟨h1, h2⟩ := eg_len r 0 true
      split
      · simp only [List.length_cons]
        refine ⟨by omega, fun a ha => ?_⟩
        rcases List.mem_cons.1 ha with rfl | ha
        · omega
        · have := h2 a ha; omega
      · simp only [List.length_cons]
        exact ⟨by omega, fun a ha => by have := h2 a ha; omega⟩
theorem even_ok (s : Str) (hs : s.length ≤ 200) (h1 : (egaps s 0 false).Pairwise fun a b => b ≤ a) (h2 : ∀ a ∈ egaps s 0 false, ∀ b ∈ egaps s 0 false, a ≤ b + 1) (N : Nat) (hN : 300 < N) : w_a2Even N s = some true := by
  obtain ⟨l1, l2⟩ := eg_len s 0 false
  unfold w_a2Even
  rw [withK_n]
  have e1 := ge_l1 s hs (fun (l3 : List Int) => withK (some true) fun (kj34 : Option Bool) => w_a2Even_l2 kj34 l3 N 1) s.length 0 N 0 false [] (by omega) (by omega) (Nat.le_refl _) (Nat.le_refl _)
  rw [show ((0 : Nat) : Int) = 0 from rfl, List.drop_zero, List.nil_append] at e1
  rw [e1, withK_n]
  have := ge_l2 (egaps s 0 false) (by omega) (fun a ha => by have := l2 a ha; omega) h1 h2 (some true) ((egaps s 0 false).length - 1) 1 N (by omega) (by omega) (Nat.le_refl _) (by omega)
  exact this
end Go.Proofs.Ytlmpbacboapkaaa
