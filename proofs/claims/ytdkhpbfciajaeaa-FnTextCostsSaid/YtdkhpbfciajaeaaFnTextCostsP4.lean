/-
  Plain lemmas on these functions. No conditions but those that each states.
-/
import Derived.Test.YtdkhpbfciajaeaaFnTextCostsP3
namespace Go.Proofs.Ytdkhpbfciajaeaa
set_option linter.unusedVariables false
set_option linter.unusedSimpArgs false
/-! .. and the function that makes it. -/
theorem np_l1 (l : List Int) (hn : 1 ≤ l.length) (h100 : l.length ≤ 100) (kj : Int → Option (Bool × List Int)) (Q : Option (Bool × List Int) → Prop) (h1 : l.Pairwise (fun a b => b ≤ a) → Q (kj (-1)))
    (h2 : ∀ (i : Nat) (x : Int) (s : List Int), l = l.take i ++ x :: s → i + s.length + 1 = l.length → s.Pairwise (fun a b => b ≤ a) → (∃ z ∈ s, x < z) → Q (kj (i : Int))) :
    ∀ (j N : Nat), j + 1 ≤ l.length → (l.drop j).Pairwise (fun a b => b ≤ a) → j < N → Q (i_nextPermutation_l1 kj l N ((j : Int) - 1)) := by
  intro j
  induction j with
  | zero =>
    intro N hj hp hN
    obtain ⟨N, rfl⟩ := pos_fuel hN
    have hz : ¬ ((0 : Nat) : Int) - 1 ≥ 0 := by omega
    simp only [i_nextPermutation_l1, hz, decide_false, andO_false, Option.bind_some, cond_false]
    exact h1 (by simpa using hp)
  | succ j ih =>
    intro N hj hp hN
    obtain ⟨N, rfl⟩ := pos_fuel (show 0 < N by omega)
    have e : (((j + 1 : Nat) : Int) - 1) = (j : Int) := by omega
    have hz : (j : Int) ≥ 0 := by omega
    have hlt : j < l.length := by omega
    have hlt1 : j + 1 < l.length := by omega
    rw [e]
    simp only [i_nextPermutation_l1, hz, decide_true, andO_true]
    rw [idx_lt l j hlt, Option.bind_some, w64_nat j (by omega), idx_lt l (j + 1) hlt1, Option.bind_some, Option.bind_some]
    have hd : l.drop j = l[j] :: l.drop (j + 1) := List.drop_eq_getElem_cons hlt
    have hd1 : l.drop (j + 1) = l[j + 1] :: l.drop (j + 2) := List.drop_eq_getElem_cons hlt1
    by_cases hc : l[j] ≥ l[j + 1]
    · rw [decide_eq_true hc, cond_true, w64_id (by omega) (by omega)]
      refine ih N (by omega) ?_ (by omega)
      rw [hd, List.pairwise_cons]
      refine ⟨fun z hz => ?_, hp⟩
      rw [hd1] at hz hp
      rcases List.mem_cons.1 hz with rfl | hz
      · exact hc
      · have := (List.pairwise_cons.1 hp).1 z hz; omega
    · rw [decide_eq_false hc, cond_false]
      refine h2 j l[j] (l.drop (j + 1)) ?_ (by rw [List.length_drop]; omega) hp ⟨l[j + 1], by rw [hd1]; exact List.mem_cons_self, by omega⟩
      rw [← hd, List.take_append_drop]
theorem last_gt (x : Int) : ∀ s : List Int, (∃ z ∈ s, x < z) → ∃ A y B, s = A ++ y :: B ∧ x < y ∧ ∀ z ∈ B, z ≤ x
  | [], h => by obtain ⟨z, hz, _⟩ := h; cases hz
  | a :: s, h => by
    by_cases hs : ∃ z ∈ s, x < z
    · obtain ⟨A, y, B, e, h1, h2⟩ := last_gt x s hs
      exact ⟨a :: A, y, B, by rw [e]; rfl, h1, h2⟩
    · obtain ⟨z, hz, hxz⟩ := h
      rcases List.mem_cons.1 hz with rfl | hz
      · exact ⟨[], z, s, rfl, hxz, fun q hq => by
          by_cases hle : q ≤ x
          · exact hle
          · exact absurd ⟨q, hq, by omega⟩ hs⟩
      · exact absurd ⟨z, hz, hxz⟩ hs
theorem np_l2 (M : List Int) (y : Int) (B : List Int) (i : Nat) (x : Int) (hl : (M ++ y :: B).length ≤ 100) (hx : (M ++ y :: B)[i]? = some x) (hxy : x < y) (hB : ∀ z ∈ B, z ≤ x) (kj : Int → Option (Bool × List Int)) : ∀ (q N : Nat), q ≤ B.length → q < N → i_nextPermutation_l2 kj (M ++ y :: B) (i : Int) N ((M.length + q : Nat) : Int) = kj (M.length : Int) := by
  intro q
  simp only [List.length_append, List.length_cons] at hl
  induction q with
  | zero =>
    intro N hq hN
    obtain ⟨N, rfl⟩ := pos_fuel hN
    have e : (M ++ y :: B)[M.length + 0]? = some y := by rw [List.getElem?_append_right (by omega)]; simp
    simp only [i_nextPermutation_l2]
    rw [idx_nat, e, Option.bind_some, idx_nat, hx, Option.bind_some, decide_eq_false (by omega), cond_false]
    rfl
  | succ q ih =>
    intro N hq hN
    obtain ⟨N, rfl⟩ := pos_fuel hN
    have hqB : q < B.length := by omega
    have e : (M ++ y :: B)[M.length + (q + 1)]? = some B[q] := by
      rw [List.getElem?_append_right (by omega), show M.length + (q + 1) - M.length = q + 1 by omega, List.getElem?_cons_succ, List.getElem?_eq_getElem hqB]
    simp only [i_nextPermutation_l2]
    rw [idx_nat, e, Option.bind_some, idx_nat, hx, Option.bind_some, decide_eq_true (hB _ (List.getElem_mem hqB)), cond_true, w64_id (by omega) (by omega)]
    rw [show ((M.length + (q + 1) : Nat) : Int) - 1 = ((M.length + q : Nat) : Int) by omega]
    exact ih N (by omega) (by omega)
theorem set_mid {α : Type} (P : List α) (a b : α) (S : List α) : (P ++ a :: S).set P.length b = P ++ b :: S := by
  rw [List.set_append_right _ _ (Nat.le_refl _)]; simp
theorem get_mid {α : Type} (P : List α) (a : α) (S : List α) : (P ++ a :: S)[P.length]? = some a := by
  rw [List.getElem?_append_right (Nat.le_refl _)]; simp
theorem np_l3 (kj : List Int → Option (Bool × List Int)) : ∀ (q : Nat) (M P S : List Int) (N : Nat), M.length ≤ q → q < N → (P ++ M ++ S).length ≤ 100 →
    i_nextPermutation_l3 kj N (P ++ M ++ S) (P.length : Int) ((P.length : Int) + M.length - 1) = kj (P ++ M.reverse ++ S) := by
  intro q
  induction q with
  | zero =>
    intro M P S N hM hN hl
    obtain ⟨N, rfl⟩ := pos_fuel hN
    have : M = [] := List.length_eq_zero_iff.1 (by omega)
    subst this
    have hz : ¬ (P.length : Int) < (P.length : Int) + (([] : List Int).length : Int) - 1 := by simp; omega
    simp only [i_nextPermutation_l3, hz, decide_false, cond_false, List.reverse_nil]
  | succ q ih =>
    intro M P S N hM hN hl
    obtain ⟨N, rfl⟩ := pos_fuel (show 0 < N by omega)
    match M, hM, hl with
    | [], _, _ =>
      have hz : ¬ (P.length : Int) < (P.length : Int) + (([] : List Int).length : Int) - 1 := by simp; omega
      simp only [i_nextPermutation_l3, hz, decide_false, cond_false, List.reverse_nil]
    | [u], _, _ =>
      have hz : ¬ (P.length : Int) < (P.length : Int) + (([u] : List Int).length : Int) - 1 := by simp
      simp only [i_nextPermutation_l3, hz, decide_false, cond_false, List.reverse_singleton]
    | u :: w :: M, hM, hl =>
      obtain ⟨M', v, e⟩ : ∃ M' v, w :: M = M' ++ [v] := ⟨(w :: M).dropLast, (w :: M).getLast (by simp), (List.dropLast_concat_getLast (by simp)).symm⟩
      rw [e] at hM hl ⊢
      simp only [List.length_cons, List.length_append, List.length_nil] at hM hl
      have hz : (P.length : Int) < (P.length : Int) + ((u :: (M' ++ [v])).length : Int) - 1 := by simp; omega
      have hb : (P.length : Int) + ((u :: (M' ++ [v])).length : Int) - 1 = ((P ++ u :: M').length : Int) := by simp; omega
      have l1 : P ++ (u :: (M' ++ [v])) ++ S = (P ++ u :: M') ++ v :: S := by simp
      have l2 : P ++ (u :: (M' ++ [v])) ++ S = P ++ u :: (M' ++ v :: S) := by simp
      have g1 : idx (P ++ (u :: (M' ++ [v])) ++ S) ((P ++ u :: M').length : Int) = some v := by rw [idx_nat, l1, get_mid]
      have g2 : idx (P ++ (u :: (M' ++ [v])) ++ S) (P.length : Int) = some u := by rw [idx_nat, l2, get_mid]
      have s1 : (P ++ (u :: (M' ++ [v])) ++ S).set (Int.toNat (P.length : Int)) v = (P ++ v :: M') ++ v :: S := by
        rw [Int.toNat_natCast, l2, set_mid]; simp
      have hl2 : (P ++ v :: M').length = (P ++ u :: M').length := by simp
      have g3 : idx ((P ++ v :: M') ++ v :: S) ((P ++ u :: M').length : Int) = some v := by rw [idx_nat, ← hl2, get_mid]
      have s2 : ((P ++ v :: M') ++ v :: S).set (Int.toNat ((P ++ u :: M').length : Int)) u = (P ++ [v]) ++ M' ++ (u :: S) := by
        rw [Int.toNat_natCast, ← hl2, set_mid]; simp
      rw [hb] at hz ⊢
      simp only [i_nextPermutation_l3, hz, decide_true, cond_true, g1, g2, g3, s1, s2, Option.bind_some]
      rw [w64_nat P.length (by omega), w64_id (by simp; omega) (by simp; omega)]
      have h := ih M' (P ++ [v]) (u :: S) N (by omega) (by omega) (by simp; omega)
      have e1 : (((P ++ [v]).length : Nat) : Int) = ((P.length + 1 : Nat) : Int) := by simp
      have e2 : (((P ++ [v]).length : Nat) : Int) + (M'.length : Int) - 1 = ((P ++ u :: M').length : Int) - 1 := by simp; omega
      rw [e2, e1] at h
      rw [h]
      simp
theorem np_ok (l : List Int) (hn : 1 ≤ l.length) (h100 : l.length ≤ 100) (N : Nat) (hN : 300 < N) :
    (i_nextPermutation N l = some (false, l) ∧ l.Pairwise (fun a b => b ≤ a)) ∨ ∃ pre x A y B, Parts l pre x A y B ∧ i_nextPermutation N l = some (true, nxt pre x A y B) := by
  unfold i_nextPermutation
  simp only [withK_eq]
  have e0 : w64 ((l.length : Int) - 2) = (((l.length - 1 : Nat) : Int) - 1) := by rw [w64_id (by omega) (by omega)]; omega
  rw [e0]
  refine np_l1 l hn h100 _ (fun r => (r = some (false, l) ∧ l.Pairwise (fun a b => b ≤ a)) ∨ ∃ pre x A y B, Parts l pre x A y B ∧ r = some (true, nxt pre x A y B)) (fun h => .inl ⟨by simp, h⟩) (fun i x s hl hi hp hs => ?_) (l.length - 1) N (by omega) ?_ (by omega)
  · right
    obtain ⟨A, y, B, rfl, hxy, hB⟩ := last_gt x s hs
    refine ⟨l.take i, x, A, y, B, ⟨hl, hxy, hB, hp⟩, ?_⟩
    simp only [List.length_append, List.length_cons] at hi
    have hti : (l.take i).length = i := by rw [List.length_take]; omega
    generalize l.take i = P at hl hti
    subst hti
    have hl2 : l = (P ++ x :: A) ++ y :: B := by rw [hl]; simp
    rw [decide_eq_false (by omega), cond_false]
    have hM : (P ++ x :: A).length = P.length + A.length + 1 := by simp; omega
    have hk : w64 ((l.length : Int) - 1) = (((P ++ x :: A).length + B.length : Nat) : Int) := by rw [w64_id (by omega) (by omega), hM]; omega
    have hx : l[P.length]? = some x := by rw [hl, get_mid]
    rw [hk]
    have e2 := np_l2 (P ++ x :: A) y B P.length x (by rw [← hl2]; exact h100) (by rw [← hl2]; exact hx) hxy hB (fun k16 =>
      (idx l k16).bind fun e25 => (idx l (P.length : Int)).bind fun e27 => (idx l (P.length : Int)).bind fun e29 => (idx (List.set l (Int.toNat (P.length : Int)) e25) k16).bind fun e31 =>
      i_nextPermutation_l3 (fun l34 => some (true, l34)) N (List.set (List.set l (Int.toNat (P.length : Int)) e25) (Int.toNat k16) e27) (w64 ((P.length : Int) + 1)) (w64 ((List.length (List.set (List.set l (Int.toNat (P.length : Int)) e25) (Int.toNat k16) e27) : Int) - 1))) B.length N (Nat.le_refl _) (by omega)
    rw [← hl2] at e2
    rw [e2]
    have g1 : idx l ((P ++ x :: A).length : Int) = some y := by rw [idx_nat, hl2, get_mid]
    have g2 : idx l (P.length : Int) = some x := by rw [idx_nat, hx]
    have s1 : l.set (Int.toNat (P.length : Int)) y = (P ++ y :: A) ++ y :: B := by rw [Int.toNat_natCast, hl, set_mid]; simp
    have hlen : (P ++ y :: A).length = (P ++ x :: A).length := by simp
    have g3 : idx ((P ++ y :: A) ++ y :: B) ((P ++ x :: A).length : Int) = some y := by rw [idx_nat, ← hlen, get_mid]
    have s2 : ((P ++ y :: A) ++ y :: B).set (Int.toNat ((P ++ x :: A).length : Int)) x = (P ++ [y]) ++ (A ++ x :: B) ++ [] := by rw [Int.toNat_natCast, ← hlen, set_mid]; simp
    simp only [g1, g2, g3, s1, s2, Option.bind_some]
    rw [w64_nat P.length (by omega), w64_id (by simp; omega) (by simp; omega)]
    have h3 := np_l3 (fun l34 => some (true, l34)) (A ++ x :: B).length (A ++ x :: B) (P ++ [y]) [] N (Nat.le_refl _) (by simp; omega) (by simp; omega)
    have e3 : (((P ++ [y]).length : Nat) : Int) = ((P.length + 1 : Nat) : Int) := by simp
    have e4 : (((P ++ [y]).length : Nat) : Int) + ((A ++ x :: B).length : Int) - 1 = ((((P ++ [y]) ++ (A ++ x :: B) ++ []) : List Int).length : Int) - 1 := by simp; omega
    rw [e4, e3] at h3
    rw [h3]
    simp [nxt]
  · have : l.drop (l.length - 1) = [l[l.length - 1]'(by omega)] := by
      rw [List.drop_eq_getElem_cons (by omega)]
      rw [List.drop_eq_nil_of_le (by omega)]
    rw [this]
    simp
theorem np_next (b : Nat) (l : List Int) (hd : Dg b l) (hn : 1 ≤ l.length) (h100 : l.length ≤ 100) (N : Nat) (hN : 300 < N) :
    (i_nextPermutation N l = some (false, l) ∧ ∀ m : List Int, m.Perm l → lxle m l) ∨ ∃ l', i_nextPermutation N l = some (true, l') ∧ l'.Perm l ∧ vl b l < vl b l' ∧ ∀ m : List Int, m.Perm l → lxle m l ∨ lxle l' m := by
  rcases np_ok l hn h100 N hN with ⟨h1, h2⟩ | ⟨pre, x, A, y, B, ⟨rfl, h1, h2, h3⟩, h4⟩
  · exact .inl ⟨h1, fun m hm => desc_max l m h2 hm⟩
  · exact .inr ⟨_, h4, nxt_perm pre x A y B, vl_nxt b x y A B h1 pre hd, fun m hm => nxt_between x y A B h1 h2 h3 pre m hm⟩
end Go.Proofs.Ytdkhpbfciajaeaa
