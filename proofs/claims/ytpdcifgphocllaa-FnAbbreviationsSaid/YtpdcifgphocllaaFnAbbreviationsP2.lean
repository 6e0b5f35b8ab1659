/-
  Plain lemmas on these functions. No conditions but those that each states.
-/
import Derived.Test.YtpdcifgphocllaaFnAbbreviationsP
namespace Go.Proofs.Ytpdcifgphocllaa
set_option linter.unusedVariables false
set_option linter.unusedSimpArgs false
/-! The sort by insertion. -/
theorem insB_perm {α : Type} (lt : α → α → Bool) (x : α) : ∀ l : List α, (insB lt x l).Perm (x :: l)
  | [] => List.Perm.refl _
  | y :: r => by
    simp only [insB]
    cases lt x y
    · exact List.Perm.refl _
    · exact ((insB_perm lt x r).cons y).trans (List.Perm.swap x y r)
theorem isortB_perm {α : Type} (lt : α → α → Bool) : ∀ (l acc : List α), (isortB lt acc l).Perm (l ++ acc)
  | [], acc => List.Perm.refl _
  | x :: r, acc => by
    simp only [isortB]
    refine (isortB_perm lt r _).trans ?_
    refine ((insB_perm lt x acc).append_left r).trans ?_
    exact List.perm_middle
theorem isort_perm {α : Type} (lt : α → α → Bool) (l : List α) : (isort lt l).Perm l := by
  unfold isort
  refine (List.reverse_perm _).trans ?_
  simpa using isortB_perm lt l []
theorem insB_pw {α : Type} (lt : α → α → Bool) (R : α → α → Prop) (tr : ∀ a b c, R a b → R b c → R a c) (x : α) : ∀ l : List α, l.Pairwise (fun a b => R b a) → (∀ y ∈ l, (lt x y = true → R x y) ∧ (lt x y = false → R y x)) → (insB lt x l).Pairwise (fun a b => R b a)
  | [], _, _ => by simp [insB]
  | y :: r, h, hx => by
    rw [List.pairwise_cons] at h
    simp only [insB]
    cases hl : lt x y with
    | false =>
      simp only [cond_false]
      have hy := (hx y List.mem_cons_self).2 hl
      refine List.pairwise_cons.2 ⟨fun z hz => ?_, List.pairwise_cons.2 h⟩
      rcases List.mem_cons.1 hz with rfl | hz
      · exact hy
      · exact tr _ _ _ (h.1 z hz) hy
    | true =>
      simp only [cond_true]
      have hy := (hx y List.mem_cons_self).1 hl
      refine List.pairwise_cons.2 ⟨fun z hz => ?_, insB_pw lt R tr x r h.2 fun z hz => hx z (List.mem_cons_of_mem _ hz)⟩
      rcases List.mem_cons.1 ((insB_perm lt x r).mem_iff.1 hz) with rfl | hz
      · exact hy
      · exact h.1 z hz
theorem isortB_pw {α : Type} (lt : α → α → Bool) (R : α → α → Prop) (tr : ∀ a b c, R a b → R b c → R a c) : ∀ (l acc : List α), acc.Pairwise (fun a b => R b a) → l.Pairwise (fun a b => (lt b a = true → R b a) ∧ (lt b a = false → R a b)) →
    (∀ x ∈ l, ∀ y ∈ acc, (lt x y = true → R x y) ∧ (lt x y = false → R y x)) → (isortB lt acc l).Pairwise (fun a b => R b a)
  | [], acc, h, _, _ => h
  | x :: r, acc, h, hl, hx => by
    rw [List.pairwise_cons] at hl
    simp only [isortB]
    refine isortB_pw lt R tr r _ (insB_pw lt R tr x acc h (hx x List.mem_cons_self)) hl.2 fun z hz y hy => ?_
    rcases List.mem_cons.1 ((insB_perm lt x acc).mem_iff.1 hy) with rfl | hy
    · exact hl.1 z hz
    · exact hx z (List.mem_cons_of_mem _ hz) y hy
/-- what is sorted stands in its order, equals as they stood -/
theorem isort_pw {α : Type} (lt : α → α → Bool) (R : α → α → Prop) (tr : ∀ a b c, R a b → R b c → R a c) (l : List α) (h : l.Pairwise (fun a b => (lt b a = true → R b a) ∧ (lt b a = false → R a b))) : (isort lt l).Pairwise R := by
  unfold isort
  rw [List.pairwise_reverse]
  exact isortB_pw lt R tr l [] List.Pairwise.nil h fun _ _ _ hy => by cases hy
theorem srtO_some {α : Type} (less : Int → Int → List α → Option Bool) (l : List α) (h : l.length ≤ 12) (hs : ∀ x ∈ l, ∀ y ∈ l, (less 0 1 [x, y]).isSome = true) : srtO less l = some (isort (ltOf less) l) := by
  unfold srtO
  have h1 : (l.all fun x => l.all fun y => (less 0 1 [x, y]).isSome) = true := List.all_eq_true.2 fun x hx => List.all_eq_true.2 fun y hy => hs x hx y hy
  rw [h1, decide_eq_true h]
  rfl
/-- 0, 1, .. -/
def rng (n : Nat) : List Int := (List.range n).map fun (i : Nat) => (i : Int)
theorem rng_len (n : Nat) : (rng n).length = n := by simp [rng]
theorem rng_succ (n : Nat) : rng (n + 1) = rng n ++ [(n : Int)] := by simp [rng, List.range_succ]
theorem rng_mem (n : Nat) (x : Int) : x ∈ rng n ↔ 0 ≤ x ∧ x < n := by
  simp only [rng, List.mem_map, List.mem_range]
  constructor
  · rintro ⟨i, hi, rfl⟩; omega
  · intro h; exact ⟨x.toNat, by omega, by omega⟩
theorem rng_pw : ∀ n : Nat, (rng n).Pairwise (· < ·)
  | 0 => List.Pairwise.nil
  | n + 1 => by
    rw [rng_succ, List.pairwise_append]
    refine ⟨rng_pw n, by simp, fun a ha b hb => ?_⟩
    rw [rng_mem] at ha
    simp at hb
    omega
theorem rng_nodup (n : Nat) : (rng n).Nodup := (rng_pw n).imp fun h e => by omega
end Go.Proofs.Ytpdcifgphocllaa
