/-
  Plain lemmas on these functions. No conditions but those that each states.
-/
import Derived.Test.YthmocnbnlpdggaaFnSeenLettersP2
namespace Go.Proofs.Ythmocnbnlpdggaa
set_option linter.unusedVariables false
set_option linter.unusedSimpArgs false
theorem bcomm (a b : Str) : (a == b) = (b == a) := by rw [Bool.eq_iff_iff, beq_iff_eq, beq_iff_eq]; exact eq_comm
def one (x : Over) : Bool := isL x.under && (isL x.top && (isL x.seen && (x.under != x.seen && (x.top != x.seen && x.under != x.top))))
theorem One_eq (N : Nat) (x : Over) (hN : 3 < N) : i_validOver N x = some (one x) ∧ s_l12One x = some (one x) := by
  obtain ⟨a1, a2⟩ := Letter_eq N x.under hN
  obtain ⟨b1, b2⟩ := Letter_eq N x.top hN
  obtain ⟨c1, c2⟩ := Letter_eq N x.seen hN
  constructor
  · simp only [i_validOver, a1, b1, c1, Option.bind_some, andO_some, one]
    cases isL x.under <;> cases isL x.top <;> cases isL x.seen <;> cases (x.under != x.seen) <;> cases (x.top != x.seen) <;> cases (x.under != x.top) <;> rfl
  · simp only [s_l12One, a2, b2, c2, Option.bind_some, andO_some, one]
    cases isL x.under <;> cases isL x.top <;> cases isL x.seen <;> cases (x.under != x.seen) <;> cases (x.top != x.seen) <;> cases (x.under != x.top) <;> rfl
/-- no rule ahead has the same letters -/
def dst (l : List Over) (x : Over) : Bool := l.all fun y => !(x.under == y.under && x.top == y.top)
theorem Ok_l2_s (l : List Over) (i : Nat) (hi : i < l.length) (hl : l.length ≤ 1000) : ∀ (n k N : Nat), k + n = i → n < N → ∀ K, s_l12Ok_l2 K l (i : Int) N (k : Int) = bif dst ((l.take i).drop k) l[i] then K else some false := by
  intro n
  induction n with
  | zero =>
    intro k N h1 h3 K
    obtain ⟨N, rfl⟩ := pos_fuel h3
    have hk : ¬ ((k : Int) < (i : Int)) := by omega
    have e2 : (l.take i).drop k = [] := List.drop_of_length_le (by simp; omega)
    simp [s_l12Ok_l2, hk, e2, dst]
  | succ n ih =>
    intro k N h1 h3 K
    obtain ⟨N, rfl⟩ := pos_fuel h3
    have hk : (k : Int) < (i : Int) := by omega
    have hkl : k < (l.take i).length := by simp; omega
    have e1 : (l.take i).drop k = l[k]'(by omega) :: (l.take i).drop (k + 1) := by
      rw [drop_cons _ k hkl, List.getElem_take]
    simp only [s_l12Ok_l2, hk, decide_true, cond_true, idx_lt l k (by omega), idx_lt l i hi, Option.bind_some, andO_some, w64_nat k (by omega), ih (k + 1) N (by omega) (by omega) K, e1, dst, List.all_cons]
    rw [bcomm l[i].under, bcomm l[i].top]
    cases ((l[k]'(by omega)).under == l[i].under && (l[k]'(by omega)).top == l[i].top) <;> rfl
theorem Ok_l2_i (x : Over) (l : List Over) (hl : l.length ≤ 1000) : ∀ (n k N : Nat), k + n = l.length → n < N → ∀ K, i_ValidOvers_l2 K x l N (k : Int) = bif dst (l.drop k) x then K else some false := by
  intro n
  induction n with
  | zero =>
    intro k N h1 h3 K
    obtain ⟨N, rfl⟩ := pos_fuel h3
    have hk : ¬ ((k : Int) < (l.length : Int)) := by omega
    have e2 : l.drop k = [] := List.drop_of_length_le (by omega)
    simp [i_ValidOvers_l2, hk, e2, dst]
  | succ n ih =>
    intro k N h1 h3 K
    obtain ⟨N, rfl⟩ := pos_fuel h3
    have hk : (k : Int) < (l.length : Int) := by omega
    have hn : k < l.length := by omega
    simp only [i_ValidOvers_l2, hk, decide_true, cond_true, idx_lt l k hn, Option.bind_some, andO_some, w64_nat k (by omega), ih (k + 1) N (by omega) (by omega) K, drop_cons l k hn, dst, List.all_cons]
    cases (x.under == l[k].under && x.top == l[k].top) <;> rfl
def okF (l : List Over) (i : Nat) : Prop := ∀ j, i ≤ j → ∀ h : j < l.length, one l[j] = true ∧ dst (l.take j) l[j] = true
theorem Ok_l1 (l : List Over) (hl : l.length ≤ 1000) : ∀ (n i : Nat), i + n = l.length → ∃ t : Bool, (t = true ↔ okF l i) ∧ ∀ N, n + l.length + 10 < N → ∀ K, s_l12Ok_l1 K l N (i : Int) = (bif t then K else some false) ∧ i_ValidOvers_l1 K l N (i : Int) = (bif t then K else some false) := by
  intro n
  induction n with
  | zero =>
    intro i h1
    have hi : ¬ ((i : Int) < (l.length : Int)) := by omega
    refine ⟨true, ⟨fun _ j hj h => by omega, fun _ => rfl⟩, fun N hN K => ?_⟩
    obtain ⟨N, rfl⟩ := pos_fuel (by omega : 0 < N)
    simp [s_l12Ok_l1, i_ValidOvers_l1, hi]
  | succ n ih =>
    intro i h1
    have hi : (i : Int) < (l.length : Int) := by omega
    have hn : i < l.length := by omega
    obtain ⟨t, g1, g2⟩ := ih (i + 1) (by omega)
    refine ⟨one l[i] && (dst (l.take i) l[i] && t), ?_, fun N hN K => ?_⟩
    · simp only [Bool.and_eq_true, g1]
      constructor
      · rintro ⟨a, b, c⟩ j hj hjl
        by_cases e : j = i
        · subst e; exact ⟨a, b⟩
        · exact c j (by omega) hjl
      · intro h
        exact ⟨(h i (by omega) hn).1, (h i (by omega) hn).2, fun j hj hjl => h j (by omega) hjl⟩
    · obtain ⟨N, rfl⟩ := pos_fuel (by omega : 0 < N)
      obtain ⟨g3, g4⟩ := g2 N (by omega) K
      obtain ⟨o1, o2⟩ := One_eq N l[i] (by omega)
      have q1 := Ok_l2_s l i hn hl i 0 N (by omega) (by omega) (bif t then K else some false)
      have es : sub l 0 (i : Int) = some (l.take i) := by rw [sub_some _ _ _ (by omega) (by omega) (by omega)]; simp
      have q2 := Ok_l2_i l[i] (l.take i) (by simp; omega) (l.take i).length 0 N (by omega) (by simp; omega) (bif t then K else some false)
      rw [show ((0 : Nat) : Int) = 0 from rfl, List.drop_zero] at q1 q2
      simp only [s_l12Ok_l1, i_ValidOvers_l1, hi, decide_true, cond_true, withK_eq, idx_lt l i hn, Option.bind_some, o1, o2, w64_nat i (by omega), g3, g4, es, q1, q2]
      cases one l[i] <;> cases dst (l.take i) l[i] <;> cases t <;> exact ⟨rfl, rfl⟩
theorem Ok_eq (l : List Over) (hl : l.length ≤ 1000) : ∃ t : Bool, (t = true ↔ l.length ≤ 20 ∧ okF l 0) ∧ ∀ N, 2 * l.length + 10 < N → s_l12Ok N l = some t ∧ i_ValidOvers N l = some t := by
  obtain ⟨t, g1, g2⟩ := Ok_l1 l hl l.length 0 (by omega)
  refine ⟨decide ((l.length : Int) ≤ 20) && t, ?_, fun N hN => ?_⟩
  · rw [Bool.and_eq_true, decide_eq_true_eq, g1]
    constructor
    · rintro ⟨a, b⟩; exact ⟨by omega, b⟩
    · rintro ⟨a, b⟩; exact ⟨by omega, b⟩
  · have h := g2 N (by omega)
    rw [show ((0 : Nat) : Int) = 0 from rfl] at h
    have e : decide ((l.length : Int) > 20) = !(decide ((l.length : Int) ≤ 20)) := by simp [← Int.not_le]
    simp only [s_l12Ok, i_ValidOvers, withK_eq, (h _).1, (h _).2, e]
    cases decide ((l.length : Int) ≤ 20) <;> cases t <;> simp
/-- what is known of valid rules -/
structure Ru (l : List Over) : Prop where
  len : l.length ≤ 20
  one : ∀ x ∈ l, ∃ u t s : UInt8, x = ⟨[u], [t], [s]⟩ ∧ 33 ≤ u.toNat ∧ u.toNat ≤ 126 ∧ 33 ≤ t.toNat ∧ t.toNat ≤ 126 ∧ 33 ≤ s.toNat ∧ s.toNat ≤ 126 ∧ u ≠ t
  dst : ∀ x ∈ l, ∀ y ∈ l, x.under = y.under → x.top = y.top → x = y
theorem Ru.of {l : List Over} (h : l.length ≤ 20 ∧ okF l 0) : Ru l := by
  refine ⟨h.1, fun x hx => ?_, fun x hx y hy e1 e2 => ?_⟩
  · obtain ⟨j, hj, rfl⟩ := List.getElem_of_mem hx
    have h1 := (h.2 j (by omega) hj).1
    simp only [Ythmocnbnlpdggaa.one, Bool.and_eq_true] at h1
    obtain ⟨a, b, c, d, e, f⟩ := h1
    obtain ⟨u, u1, u2, u3⟩ := isL_iff a
    obtain ⟨t, t1, t2, t3⟩ := isL_iff b
    obtain ⟨s, s1, s2, s3⟩ := isL_iff c
    refine ⟨u, t, s, ?_, u2, u3, t2, t3, s2, s3, fun e => ?_⟩
    · cases hx : l[j] with
      | mk a b c => rw [hx] at u1 t1 s1; simp only at u1 t1 s1; subst u1 t1 s1; rfl
    · rw [u1, t1, e] at f; simp at f
  · obtain ⟨j, hj, rfl⟩ := List.getElem_of_mem hx
    obtain ⟨k, hk, rfl⟩ := List.getElem_of_mem hy
    have no : ∀ a b (ha : a < l.length) (hb : b < l.length), a < b → l[b].under = l[a].under → l[b].top = l[a].top → False := by
      intro a b ha hb hab f1 f2
      have h1 := (h.2 b (by omega) hb).2
      unfold Ythmocnbnlpdggaa.dst at h1
      rw [List.all_eq_true] at h1
      have := h1 l[a] (by rw [List.mem_take_iff_getElem]; exact ⟨a, by omega, rfl⟩)
      rw [f1, f2] at this
      simp at this
    rcases Nat.lt_trichotomy j k with g | g | g
    · exact absurd (no j k hj hk g e1.symm e2.symm) id
    · subst g; rfl
    · exact absurd (no k j hk hj g e1 e2) id
end Go.Proofs.Ythmocnbnlpdggaa
