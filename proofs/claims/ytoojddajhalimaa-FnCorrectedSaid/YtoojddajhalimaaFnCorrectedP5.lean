/-
  Plain lemmas on these functions. No conditions but those that each states.
-/
import Derived.Test.YtoojddajhalimaaFnCorrectedP4
namespace Go.Proofs.Ytoojddajhalimaa
set_option linter.unusedVariables false
set_option linter.unusedSimpArgs false
def fnd (l : List Over) (u t : UInt8) : UInt8 := match l.find? (fun x => hd x.under == u && hd x.top == t) with
  | some x => hd x.seen
  | none => 0
/-- what one sees -/
def sn (l : List Over) (u t : UInt8) : UInt8 := bif u == t || t == 32 then u else bif u == 32 then t else fnd l u t
theorem seen_l1 (l : List Over) (hr : Ru l) (u t : UInt8) : ∀ (n i N : Nat), i + n = l.length → n < N → i_seen_l1 (some (0, false)) l u t N (i : Int) = some (fnd (l.drop i) u t, fnd (l.drop i) u t != 0) ∧ s_l12Seen_l1 (some 0) l u t N (i : Int) = some (fnd (l.drop i) u t) := by
  have hl := hr.len
  intro n
  induction n with
  | zero =>
    intro i N h1 h3
    obtain ⟨N, rfl⟩ := pos_fuel h3
    have hi : ¬ ((i : Int) < (l.length : Int)) := by omega
    have e2 : l.drop i = [] := List.drop_of_length_le (by omega)
    simp [i_seen_l1, s_l12Seen_l1, hi, e2, fnd]
  | succ n ih =>
    intro i N h1 h3
    obtain ⟨N, rfl⟩ := pos_fuel h3
    have hi : (i : Int) < (l.length : Int) := by omega
    have hn : i < l.length := by omega
    obtain ⟨e1, e2, e3⟩ := hr.hds (List.getElem_mem hn)
    obtain ⟨g1, g2⟩ := ih (i + 1) N (by omega) (by omega)
    have hs : hd l[i].seen ≠ 0 := by
      obtain ⟨_, _, s, e, _, _, _, _, h, _⟩ := hr.one _ (List.getElem_mem hn)
      rw [e]; exact nz (show 0 < s.toNat by omega)
    simp only [i_seen_l1, s_l12Seen_l1, hi, decide_true, cond_true, idx_lt l i hn, Option.bind_some, e1, e2, e3, andO_some, w64_nat i (by omega), g1, g2, drop_cons l i hn]
    unfold fnd
    rw [List.find?_cons]
    cases (hd l[i].under == u && hd l[i].top == t)
    · exact ⟨rfl, rfl⟩
    · have : (hd l[i].seen != 0) = true := by simpa using hs
      simp only [cond_true, this]; exact ⟨trivial, trivial⟩
theorem seen_eq (N : Nat) (l : List Over) (hr : Ru l) (u t : UInt8) (hu : u ≠ 0) (ht : t ≠ 0) (hN : 30 < N) : i_seen N l u t = some (sn l u t, sn l u t != 0) ∧ s_l12Seen N l u t = some (sn l u t) := by
  have hl := hr.len
  obtain ⟨g1, g2⟩ := seen_l1 l hr u t l.length 0 N (by omega) (by omega)
  rw [show ((0 : Nat) : Int) = 0 from rfl, List.drop_zero] at g1 g2
  have hu' : (u != 0) = true := by simpa using hu
  have ht' : (t != 0) = true := by simpa using ht
  unfold i_seen s_l12Seen sn
  simp only [orO_some, Option.bind_some, withK_eq, g1, g2]
  cases (u == t || t == 32)
  · cases (u == 32)
    · exact ⟨rfl, rfl⟩
    · simp only [cond_false, cond_true, ht']; exact ⟨trivial, trivial⟩
  · simp only [cond_true, hu']; exact ⟨trivial, trivial⟩
/-- what stands at a place after a plan; 0 if it cannot be read -/
def ap (l : List Over) (u p t : UInt8) : UInt8 := bif p == 43 then sn l u t else bif p == 35 then t else u
def apL (l : List Over) : Str → Str → Str → Str
  | u :: a, p :: b, t :: c => ap l u p t :: apL l a b c
  | _, _, _ => []
theorem Apply_l1 (l : List Over) (hr : Ru l) (a p c : Str) (hap : a.length = p.length) (hac : a.length = c.length) (ha : a.length ≤ 1000) (h1 : ∀ x ∈ a, pr x = true) (h2 : ∀ x ∈ c, pr x = true) : ∀ (n i N : Nat) (o : Str), i + n = a.length → n + 40 < N → o.length = i →
    (i_ApplyPlan_l1 (fun x => some (x, 0)) l a p c a N (o ++ a.drop i) (i : Int) = bif (apL l (a.drop i) (p.drop i) (c.drop i)).all (· != 0) then some (o ++ apL l (a.drop i) (p.drop i) (c.drop i), 0) else some ([], 3)) ∧
    s_ApplyPlan_l1 (fun x => some (x, 0)) l a p c N o (i : Int) = bif (apL l (a.drop i) (p.drop i) (c.drop i)).all (· != 0) then some (o ++ apL l (a.drop i) (p.drop i) (c.drop i), 0) else some ([], 3) := by
  intro n
  induction n with
  | zero =>
    intro i N o g1 g3 ho
    obtain ⟨N, rfl⟩ := pos_fuel (by omega : 0 < N)
    have hi : ¬ ((i : Int) < (a.length : Int)) := by omega
    have hi' : ¬ ((i : Int) < (p.length : Int)) := by omega
    have e2 : a.drop i = [] := List.drop_of_length_le (by omega)
    simp [i_ApplyPlan_l1, s_ApplyPlan_l1, hi, hi', e2, apL]
  | succ n ih =>
    intro i N o g1 g3 ho
    obtain ⟨N, rfl⟩ := pos_fuel (by omega : 0 < N)
    have hi : (i : Int) < (a.length : Int) := by omega
    have hi' : (i : Int) < (p.length : Int) := by omega
    have hn : i < a.length := by omega
    have hp : i < p.length := by omega
    have hc : i < c.length := by omega
    have hu := pr_nz (h1 _ (List.getElem_mem hn))
    have ht := pr_nz (h2 _ (List.getElem_mem hc))
    obtain ⟨s1, s2⟩ := seen_eq N l hr a[i] c[i] hu ht (by omega)
    have hd := drop_cons a i hn
    have ei : idx (o ++ a.drop i) (i : Int) = some a[i] := by
      rw [idx_nat, List.getElem?_append_right (by omega), ho, Nat.sub_self, hd]; rfl
    have es : ∀ v : UInt8, (o ++ a.drop i).set i v = o ++ [v] ++ a.drop (i + 1) := fun v => by
      rw [List.set_append_right _ _ (by omega), ho, Nat.sub_self, hd, List.set_cons_zero]; simp only [List.append_assoc, List.cons_append, List.nil_append]
    have e0 : o ++ a.drop i = o ++ [a[i]] ++ a.drop (i + 1) := by rw [hd]; simp only [List.append_assoc, List.cons_append, List.nil_append]
    have eA : apL l (a.drop i) (p.drop i) (c.drop i) = ap l a[i] p[i] c[i] :: apL l (a.drop (i + 1)) (p.drop (i + 1)) (c.drop (i + 1)) := by
      rw [hd, drop_cons p i hp, drop_cons c i hc]; rfl
    have ea : ∀ v : UInt8, app o [v] = some (o ++ [v]) := fun v => app_some _ _ (by simp; unfold LIM; omega)
    obtain ⟨k1, k2⟩ := ih (i + 1) N (o ++ [ap l a[i] p[i] c[i]]) (by omega) (by omega) (by simp; omega)
    have ef : o ++ ap l a[i] p[i] c[i] :: apL l (a.drop (i + 1)) (p.drop (i + 1)) (c.drop (i + 1)) = o ++ [ap l a[i] p[i] c[i]] ++ apL l (a.drop (i + 1)) (p.drop (i + 1)) (c.drop (i + 1)) := by simp
    rw [eA, List.all_cons, ef]
    have b1 : (a[i] == (0 : UInt8)) = false := by simpa using hu
    have b2 : (c[i] == (0 : UInt8)) = false := by simpa using ht
    have c1 : (a[i] != (0 : UInt8)) = true := by simpa using hu
    have c2 : (c[i] != (0 : UInt8)) = true := by simpa using ht
    constructor
    · simp only [i_ApplyPlan_l1, hi, decide_true, cond_true, withK_eq, idx_lt a i hn, idx_lt p i hp, idx_lt c i hc, Option.bind_some, s1, ei, es, Int.toNat_natCast, w64_nat i (by omega)]
      unfold ap at k1 ⊢
      cases q1 : (p[i] == 43)
      · rw [q1] at k1
        cases q2 : (p[i] == 35)
        · rw [q2] at k1
          simp only [cond_false] at k1 ⊢
          rw [e0, k1, c1, Bool.true_and]
        · rw [q2] at k1
          simp only [cond_false, cond_true] at k1 ⊢
          rw [k1, c2, Bool.true_and]
      · rw [q1] at k1
        simp only [cond_true] at k1 ⊢
        cases q3 : (sn l a[i] c[i] != 0)
        · rfl
        · simp only [Bool.not_true, cond_false, Bool.true_and]
          exact k1
    · simp only [s_ApplyPlan_l1, hi', decide_true, cond_true, withK_eq, idx_lt a i hn, idx_lt p i hp, idx_lt c i hc, Option.bind_some, s2, ea, w64_nat i (by omega)]
      unfold ap at k2 ⊢
      cases q2 : (p[i] == 35)
      · cases q1 : (p[i] == 43)
        · rw [q1, q2] at k2
          simp only [cond_false, b1, c1, Bool.true_and] at k2 ⊢
          exact k2
        · rw [q1] at k2
          simp only [cond_true, cond_false] at k2 ⊢
          cases q3 : (sn l a[i] c[i] != 0)
          · have : (sn l a[i] c[i] == 0) = true := by simpa using q3
            rw [this]; rfl
          · have : (sn l a[i] c[i] == 0) = false := by simpa using q3
            rw [this]
            simp only [cond_false, Bool.true_and]
            exact k2
      · have q1 : (p[i] == 43) = false := by
          have : p[i] = 35 := eq_of_beq q2
          rw [this]; decide
        rw [q1, q2] at k2
        simp only [cond_true, cond_false, q1, b2, c2, Bool.true_and] at k2 ⊢
        exact k2
end Go.Proofs.Ytoojddajhalimaa
