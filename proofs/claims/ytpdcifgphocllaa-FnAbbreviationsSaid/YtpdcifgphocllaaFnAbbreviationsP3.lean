/-
  Plain lemmas on these functions. No conditions but those that each states.
-/
import Derived.Test.YtpdcifgphocllaaFnAbbreviationsP2
namespace Go.Proofs.Ytpdcifgphocllaa
set_option linter.unusedVariables false
set_option linter.unusedSimpArgs false
/-! The stable sort and the sort by putting in at a place. -/
theorem withK_n {A B : Type} (k : A) (b : A → B) : withK k b = b k := Eq.trans rfl rfl
/-- how many stand before the place of x -/
def insP {α : Type} (lt : α → α → Bool) (x : α) : List α → Nat
  | [] => 0
  | y :: r => bif lt x y then insP lt x r else r.length + 1
theorem insP_le {α : Type} (lt : α → α → Bool) (x : α) : ∀ acc : List α, insP lt x acc ≤ acc.length
  | [] => Nat.le_refl _
  | y :: r => by
    have := insP_le lt x r
    simp only [insP, List.length_cons]
    cases lt x y
    · simp
    · simp only [cond_true]; omega
theorem insP_cut {α : Type} (lt : α → α → Bool) (x : α) : ∀ acc post : List α, (acc.reverse ++ post).take (insP lt x acc) ++ x :: (acc.reverse ++ post).drop (insP lt x acc) = (insB lt x acc).reverse ++ post
  | [], post => by simp [insP, insB]
  | y :: r, post => by
    simp only [insP, insB]
    cases h : lt x y with
    | true =>
      have := insP_cut lt x r (y :: post)
      simp only [cond_true, List.reverse_cons, List.append_assoc, List.singleton_append]
      exact this
    | false =>
      have e : (y :: r).reverse.length = r.length + 1 := by simp
      simp only [cond_false]
      rw [← e, List.take_left, List.drop_left]
      simp
theorem insB_congr {α : Type} (lt lt' : α → α → Bool) (x : α) : ∀ acc : List α, (∀ y ∈ acc, lt x y = lt' x y) → insB lt x acc = insB lt' x acc
  | [], _ => rfl
  | y :: r, h => by
    simp only [insB]
    rw [h y List.mem_cons_self, insB_congr lt lt' x r fun z hz => h z (List.mem_cons_of_mem _ hz)]
theorem isortB_congr {α : Type} (lt lt' : α → α → Bool) : ∀ l acc : List α, (∀ x ∈ l, ∀ y ∈ l ++ acc, lt x y = lt' x y) → isortB lt acc l = isortB lt' acc l
  | [], _, _ => rfl
  | x :: r, acc, h => by
    simp only [isortB]
    rw [insB_congr lt lt' x acc fun y hy => h x List.mem_cons_self y (List.mem_append_right _ hy)]
    refine isortB_congr lt lt' r _ fun z hz y hy => h z (List.mem_cons_of_mem _ hz) y ?_
    rcases List.mem_append.1 hy with hy | hy
    · exact List.mem_append_left _ (List.mem_cons_of_mem _ hy)
    · rcases List.mem_cons.1 ((insB_perm lt' x acc).mem_iff.1 hy) with rfl | hy
      · exact List.mem_append_left _ List.mem_cons_self
      · exact List.mem_append_right _ hy
theorem isort_congr {α : Type} (lt lt' : α → α → Bool) (l : List α) (h : ∀ x ∈ l, ∀ y ∈ l, lt x y = lt' x y) : isort lt l = isort lt' l := by
  unfold isort
  rw [isortB_congr lt lt' l [] fun x hx y hy => h x hx y (by simpa using hy)]
theorem srtS_some {α : Type} (less : Int → Int → List α → Option Bool) (lt : α → α → Bool) (l : List α) (hl : l.length ≤ 40) (hs : ∀ x ∈ l, ∀ y ∈ l, less 0 1 [x, y] = some (lt x y))
    (hN : ∀ x y z, lt x y = true → lt z y = false → lt x z = true) (hA : ∀ x y, lt x y = true → lt y x = false) : srtS less l = some (isort lt l) := by
  have e : ∀ x ∈ l, ∀ y ∈ l, ltOf less x y = lt x y := fun x hx y hy => by unfold ltOf; rw [hs x hx y hy]; rfl
  have h1 : (l.all fun x => l.all fun y => (less 0 1 [x, y]).isSome) = true := List.all_eq_true.2 fun x hx => List.all_eq_true.2 fun y hy => by rw [hs x hx y hy]; rfl
  have h2 : ordB (ltOf less) l = true := by
    unfold ordB
    refine List.all_eq_true.2 fun x hx => List.all_eq_true.2 fun y hy => ?_
    rw [Bool.and_eq_true]
    refine ⟨?_, List.all_eq_true.2 fun z hz => ?_⟩
    · rw [e x hx y hy, e y hy x hx]
      cases h : lt x y with
      | false => rfl
      | true => rw [hA x y h]; rfl
    · rw [e x hx y hy, e z hz y hy, e x hx z hz]
      cases h : lt x y with
      | false => rfl
      | true =>
        cases h' : lt z y with
        | true => rfl
        | false => rw [hN x y z h h']; rfl
  unfold srtS
  rw [decide_eq_true hl, h1, h2, Bool.or_true]
  show some (isort (ltOf less) l) = _
  rw [isort_congr (ltOf less) lt l e]
/-- as many before the p-th as come before it -/
theorem count_lt {α : Type} (lt : α → α → Bool) (l : List α) (p : Nat) (hp : p < l.length) (m : α) (hm : l[p] = m) (h : l.Pairwise fun x y => lt y x = false) (hA : lt m m = false) : l.countP (fun x => lt x m) ≤ p ∧ l.countP (fun x => lt m x) ≤ l.length - p - 1 := by
  have e : l = l.take p ++ m :: l.drop (p + 1) := by
    rw [← hm, ← List.drop_eq_getElem_cons hp, List.take_append_drop]
  have hl1 : (l.take p).length = p := by rw [List.length_take]; omega
  have hl2 : (l.drop (p + 1)).length = l.length - p - 1 := by rw [List.length_drop]; omega
  generalize l.take p = A at *
  generalize l.drop (p + 1) = B at *
  subst e
  rw [List.pairwise_append, List.pairwise_cons] at h
  obtain ⟨_, ⟨h2, _⟩, h3⟩ := h
  constructor
  · have k1 : List.countP (fun x => lt x m) B = 0 := List.countP_eq_zero.2 (by intro x hx; rw [h2 x hx]; decide)
    have := List.countP_le_length (p := fun x => lt x m) (l := A)
    rw [List.countP_append, List.countP_cons, hA, k1]
    simp only [Bool.false_eq_true, if_false]
    omega
  · have k1 : List.countP (fun x => lt m x) A = 0 := List.countP_eq_zero.2 (by intro x hx; rw [h3 x hx m List.mem_cons_self]; decide)
    have := List.countP_le_length (p := fun x => lt m x) (l := B)
    rw [List.countP_append, List.countP_cons, hA, k1]
    simp only [Bool.false_eq_true, if_false]
    omega
theorem tdiv2 (n : Nat) (h : 0 < n) (h2 : n ≤ 1000) : w64 (Int.tdiv (w64 ((n : Int) - 1)) 2) = (((n - 1) / 2 : Nat) : Int) := by
  have e : w64 ((n : Int) - 1) = ((n - 1 : Nat) : Int) := by rw [w64_id (by omega) (by omega)]; omega
  rw [e]
  have : Int.tdiv ((n - 1 : Nat) : Int) 2 = (((n - 1) / 2 : Nat) : Int) := rfl
  rw [this, w64_id (by omega) (by omega)]
end Go.Proofs.Ytpdcifgphocllaa
