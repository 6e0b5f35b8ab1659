/-
  Plain lemmas on these functions. No conditions but those that each states.
-/
import Derived.Test.YthifimjkndpmpaaFnFewLettersM
namespace Go.Proofs.Ythifimjkndpmpaa
set_option linter.unusedVariables false
set_option linter.unusedSimpArgs false
/-! Plain lemmas. -/

theorem w64_id {x : Int} (h1 : -9223372036854775808 ≤ x) (h2 : x ≤ 9223372036854775807) : w64 x = x := by
  show IntKind.i64.wrap x = x
  rw [IntKind.wrap_i64]; omega
theorem w64_nat (k : Nat) (h : k < 9223372036854775807) : w64 ((k : Int) + 1) = ((k + 1 : Nat) : Int) := by
  rw [w64_id (by omega) (by omega)]; rfl
theorem idx_nat {α : Type} (l : List α) (k : Nat) : idx l (k : Int) = l[k]? := by simp [idx]
theorem idx_lt {α : Type} (l : List α) (k : Nat) (h : k < l.length) : idx l (k : Int) = some l[k] := by rw [idx_nat, List.getElem?_eq_getElem h]
theorem idx_int {α : Type} (l : List α) (i : Int) (h0 : 0 ≤ i) (h : i < l.length) : idx l i = some (l[i.toNat]'(by omega)) := by
  unfold idx; rw [if_pos h0, List.getElem?_eq_getElem]
theorem pos_fuel {N n : Nat} (h : n < N) : ∃ M, N = M + 1 := ⟨N - 1, by omega⟩
theorem mk_some {α : Type} (n : Nat) (z : α) (h : n ≤ LIM) : mk (n : Int) z = some (List.replicate n z) := by
  unfold mk; rw [if_pos ⟨by omega, by unfold LIM at *; omega⟩]; rfl
theorem app_some {α : Type} (a b : List α) (h : a.length + b.length ≤ LIM) : app a b = some (a ++ b) := by unfold app; rw [if_pos h]
theorem cat_some (a b : List UInt8) (h : a.length + b.length ≤ LIM) : cat a b = some (a ++ b) := by unfold cat; rw [if_pos h]
theorem sub_some {α : Type} (l : List α) (lo hi : Int) (h0 : 0 ≤ lo) (h1 : lo ≤ hi) (h2 : hi ≤ l.length) : sub l lo hi = some ((l.drop lo.toNat).take (hi.toNat - lo.toNat)) := by
  unfold sub; rw [if_pos ⟨h0, h1, h2⟩]
@[simp] theorem orO_true (x : Option Bool) : orO true x = some true := rfl
@[simp] theorem orO_false (x : Option Bool) : orO false x = x := rfl
@[simp] theorem andO_true (x : Option Bool) : andO true x = x := rfl
@[simp] theorem andO_false (x : Option Bool) : andO false x = some false := rfl
@[simp] theorem withK_eq {A B : Type} (k : A) (b : A → B) : withK k b = b k := rfl
theorem orO_some (a b : Bool) : orO a (some b) = some (a || b) := by cases a <;> rfl
theorem andO_some (a b : Bool) : andO a (some b) = some (a && b) := by cases a <;> rfl

/-- a place filled: what stands before it, and the rest of the other list -/
theorem take_set_drop {α : Type} (l a : List α) (i : Nat) (hl : i < l.length) (ha : i < a.length) : (l.set i a[i]).take (i + 1) ++ a.drop (i + 1) = l.take i ++ a.drop i := by
  have h1 : (l.set i a[i]).take (i + 1) = l.take i ++ [a[i]] := by
    rw [List.take_succ_eq_append_getElem (by simpa using hl), List.take_set_of_le (Nat.le_refl _)]
    simp
  rw [h1, List.append_assoc, List.singleton_append, ← List.drop_eq_getElem_cons ha]

theorem drop_cons {α : Type} (a : List α) (i : Nat) (h : i < a.length) : a.drop i = a[i] :: a.drop (i + 1) := List.drop_eq_getElem_cons h
end Go.Proofs.Ythifimjkndpmpaa
