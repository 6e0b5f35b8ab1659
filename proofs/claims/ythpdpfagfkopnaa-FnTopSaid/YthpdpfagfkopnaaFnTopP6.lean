/-
  Plain lemmas on these functions. No conditions but those that each states.
-/
import Derived.Test.YthpdpfagfkopnaaFnTopP5
namespace Go.Proofs.Ythpdpfagfkopnaa
set_option linter.unusedVariables false
set_option linter.unusedSimpArgs false
/-! The next permutation. -/
/-- compared number by number -/
def lxle : List Int → List Int → Prop
  | [], _ => True
  | _ :: _, [] => False
  | a :: l, b :: m => a < b ∨ (a = b ∧ lxle l m)
theorem lx_antisymm : ∀ (l m : List Int), lxle l m → lxle m l → l = m
  | [], [], _, _ => rfl
  | [], _ :: _, _, h => h.elim
  | _ :: _, [], h, _ => h.elim
  | a :: l, b :: m, h, k => by
    rcases h with h | ⟨rfl, h⟩
    · rcases k with k | ⟨rfl, _⟩ <;> omega
    · rcases k with k | ⟨_, k⟩
      · omega
      · rw [lx_antisymm l m h k]
theorem lx_refl : ∀ l : List Int, lxle l l
  | [] => trivial
  | _ :: l => .inr ⟨rfl, lx_refl l⟩
theorem desc_max : ∀ (s m : List Int), s.Pairwise (fun a b => b ≤ a) → m.Perm s → lxle m s
  | [], m, _, hp => by rw [hp.eq_nil]; trivial
  | a :: s, m, h, hp => by
    cases m with
    | nil => have := hp.length_eq; simp at this
    | cons q m =>
      rw [List.pairwise_cons] at h
      have hq : q ∈ a :: s := hp.mem_iff.1 List.mem_cons_self
      have hqa : q ≤ a := by
        rcases List.mem_cons.1 hq with rfl | hq
        · exact Int.le_refl _
        · exact h.1 q hq
      by_cases e : q = a
      · subst e
        exact .inr ⟨rfl, desc_max s m h.2 hp.cons_inv⟩
      · exact .inl (by omega)
theorem asc_min : ∀ (s m : List Int), s.Pairwise (fun a b => a ≤ b) → m.Perm s → lxle s m
  | [], m, _, hp => trivial
  | a :: s, m, h, hp => by
    cases m with
    | nil => have := hp.length_eq; simp at this
    | cons q m =>
      rw [List.pairwise_cons] at h
      have hq : q ∈ a :: s := hp.mem_iff.1 List.mem_cons_self
      have hqa : a ≤ q := by
        rcases List.mem_cons.1 hq with rfl | hq
        · exact Int.le_refl _
        · exact h.1 q hq
      by_cases e : q = a
      · subst e
        exact .inr ⟨rfl, asc_min s m h.2 hp.cons_inv⟩
      · exact .inl (by omega)
/-- what comes next -/
def nxtP (pre : List Int) (x : Int) (A : List Int) (y : Int) (B : List Int) : List Int := pre ++ y :: (B.reverse ++ x :: A.reverse)
/-- the parts of a list that has a next one -/
def Parts (l pre : List Int) (x : Int) (A : List Int) (y : Int) (B : List Int) : Prop :=
  l = pre ++ x :: (A ++ y :: B) ∧ x < y ∧ (∀ z ∈ B, z ≤ x) ∧ (A ++ y :: B).Pairwise (fun a b => b ≤ a)
theorem nxt_between (x y : Int) (A B : List Int) (hxy : x < y) (hB : ∀ z ∈ B, z ≤ x) (hd : (A ++ y :: B).Pairwise (fun a b => b ≤ a)) : ∀ (pre m : List Int), m.Perm (pre ++ x :: (A ++ y :: B)) → lxle m (pre ++ x :: (A ++ y :: B)) ∨ lxle (nxtP pre x A y B) m
  | [], m, hp => by
    cases m with
    | nil => have := hp.length_eq; simp at this
    | cons q m =>
      simp only [List.nil_append] at hp ⊢
      have hdA := List.pairwise_append.1 hd
      by_cases h1 : q < x
      · exact .inl (.inl h1)
      · by_cases h2 : q = x
        · subst h2
          exact .inl (.inr ⟨rfl, desc_max _ m hd hp.cons_inv⟩)
        · have hq : q ∈ x :: (A ++ y :: B) := hp.mem_iff.1 List.mem_cons_self
          have hqy : y ≤ q := by
            rcases List.mem_cons.1 hq with h | h
            · exact absurd h h2
            · rcases List.mem_append.1 h with h | h
              · exact hdA.2.2 q h y List.mem_cons_self
              · rcases List.mem_cons.1 h with rfl | h
                · exact Int.le_refl _
                · have := hB q h; omega
          right
          unfold nxtP
          by_cases h3 : q = y
          · subst h3
            refine .inr ⟨rfl, asc_min _ m ?_ ?_⟩
            · rw [List.pairwise_append]
              have hBp := (List.pairwise_cons.1 hdA.2.1)
              refine ⟨List.pairwise_reverse.2 hBp.2, ?_, fun a ha c hc => ?_⟩
              · rw [List.pairwise_cons]
                refine ⟨fun a ha => ?_, List.pairwise_reverse.2 hdA.1⟩
                have := hdA.2.2 a (List.mem_reverse.1 ha) q List.mem_cons_self
                omega
              · have h4 := hB a (List.mem_reverse.1 ha)
                rcases List.mem_cons.1 hc with rfl | hc
                · exact h4
                · have := hdA.2.2 c (List.mem_reverse.1 hc) q List.mem_cons_self
                  omega
            · have h5 : (q :: m).Perm (q :: (x :: (A ++ B))) := by
                refine hp.trans ?_
                refine (List.Perm.cons x List.perm_middle).trans ?_
                exact List.Perm.swap q x (A ++ B)
              refine h5.cons_inv.trans ?_
              refine List.Perm.trans ?_ List.perm_middle.symm
              refine List.Perm.cons x ?_
              exact List.perm_append_comm.trans ((List.reverse_perm B).symm.append (List.reverse_perm A).symm)
          · exact .inl (by omega)
  | p :: pre, m, hp => by
    cases m with
    | nil => have := hp.length_eq; simp at this
    | cons q m =>
      by_cases h1 : q < p
      · exact .inl (.inl h1)
      · by_cases h2 : q = p
        · subst h2
          rcases nxt_between x y A B hxy hB hd pre m (by simpa using hp.cons_inv) with h | h
          · exact .inl (.inr ⟨rfl, h⟩)
          · exact .inr (.inr ⟨rfl, h⟩)
        · exact .inr (.inl (by omega))
theorem nxt_perm (pre : List Int) (x : Int) (A : List Int) (y : Int) (B : List Int) : (nxtP pre x A y B).Perm (pre ++ x :: (A ++ y :: B)) := by
  unfold nxtP
  refine List.Perm.append_left pre ?_
  have h1 : (y :: (B.reverse ++ x :: A.reverse)).Perm (y :: (x :: (B ++ A))) := by
    refine List.Perm.cons y ?_
    refine List.perm_middle.trans ?_
    exact List.Perm.cons x ((List.reverse_perm B).append (List.reverse_perm A))
  refine h1.trans ?_
  refine (List.Perm.swap x y _).trans ?_
  refine List.Perm.cons x ?_
  refine (List.Perm.cons y List.perm_append_comm).trans ?_
  exact List.perm_middle.symm
/-- a number for a list -/
def vl (b : Nat) : List Int → Nat
  | [] => 0
  | a :: l => a.toNat * b ^ l.length + vl b l
def Dg (b : Nat) (l : List Int) : Prop := ∀ x ∈ l, 0 ≤ x ∧ x < b
theorem vl_lt (b : Nat) : ∀ l : List Int, Dg b l → vl b l < b ^ l.length
  | [], _ => by simp [vl]
  | a :: l, h => by
    have h1 := vl_lt b l fun x hx => h x (List.mem_cons_of_mem _ hx)
    have h2 := h a List.mem_cons_self
    have h3 : a.toNat + 1 ≤ b := by omega
    have h4 := Nat.mul_le_mul_right (b ^ l.length) h3
    simp only [vl, List.length_cons, Nat.pow_succ]
    rw [Nat.add_mul, Nat.one_mul, Nat.mul_comm b] at h4
    omega
theorem vl_nxt (b : Nat) (x y : Int) (A B : List Int) (hxy : x < y) : ∀ (pre : List Int), Dg b (pre ++ x :: (A ++ y :: B)) → vl b (pre ++ x :: (A ++ y :: B)) < vl b (nxtP pre x A y B)
  | [], h => by
    unfold nxtP
    simp only [List.nil_append, vl] at h ⊢
    have hl : (B.reverse ++ x :: A.reverse).length = (A ++ y :: B).length := by simp; omega
    have h1 := vl_lt b (A ++ y :: B) fun z hz => h z (List.mem_cons_of_mem _ hz)
    have h2 := h x List.mem_cons_self
    have h3 : x.toNat + 1 ≤ y.toNat := by omega
    have h4 := Nat.mul_le_mul_right (b ^ (A ++ y :: B).length) h3
    rw [Nat.add_mul, Nat.one_mul] at h4
    rw [hl]
    omega
  | p :: pre, h => by
    have ih := vl_nxt b x y A B hxy pre fun z hz => h z (List.mem_cons_of_mem _ hz)
    unfold nxtP at ih ⊢
    simp only [List.cons_append, vl]
    have hl : (pre ++ y :: (B.reverse ++ x :: A.reverse)).length = (pre ++ x :: (A ++ y :: B)).length := by simp; omega
    rw [hl]
    omega
/-! .. and the function that makes it. -/
theorem np_l1 (l : List Int) (hn : 1 ≤ l.length) (h100 : l.length ≤ 100) (kj : Int → Option (Bool × List Int)) (Q : Option (Bool × List Int) → Prop) (h1 : l.Pairwise (fun a b => b ≤ a) → Q (kj (-1)))
    (h2 : ∀ (i : Nat) (x : Int) (s : List Int), l = l.take i ++ x :: s → i + s.length + 1 = l.length → s.Pairwise (fun a b => b ≤ a) → (∃ z ∈ s, x < z) → Q (kj (i : Int))) :
    ∀ (j N : Nat), j + 1 ≤ l.length → (l.drop j).Pairwise (fun a b => b ≤ a) → j < N → Q (i_nextPermutation_l1 kj l N ((j : Int) - 1)) := by
  intro j
  induction j with
  | zero =>
    intro N hj hp hN
    obtain ⟨N, rfl⟩ := pos_fuel hN
    have hz : ¬ ((0 : Nat) : Int) - 1 ≥ 0 := by omega
    simp only [i_nextPermutation_l1, hz, decide_false, andO_false, Option.bind_some, cond_false]
    exact h1 (by simpa using hp)
  | succ j ih =>
    intro N hj hp hN
    obtain ⟨N, rfl⟩ := pos_fuel (show 0 < N by omega)
    have e : (((j + 1 : Nat) : Int) - 1) = (j : Int) := by omega
    have hz : (j : Int) ≥ 0 := by omega
    have hlt : j < l.length := by omega
    have hlt1 : j + 1 < l.length := by omega
    rw [e]
    simp only [i_nextPermutation_l1, hz, decide_true, andO_true]
    rw [idx_lt l j hlt, Option.bind_some, w64_nat j (by omega), idx_lt l (j + 1) hlt1, Option.bind_some, Option.bind_some]
    have hd : l.drop j = l[j] :: l.drop (j + 1) := List.drop_eq_getElem_cons hlt
    have hd1 : l.drop (j + 1) = l[j + 1] :: l.drop (j + 2) := List.drop_eq_getElem_cons hlt1
    by_cases hc : l[j] ≥ l[j + 1]
    · rw [decide_eq_true hc, cond_true, w64_id (by omega) (by omega)]
      refine ih N (by omega) ?_ (by omega)
      rw [hd, List.pairwise_cons]
      refine ⟨fun z hz => ?_, hp⟩
      rw [hd1] at hz hp
      rcases List.mem_cons.1 hz with rfl | hz
      · exact hc
      · have := (List.pairwise_cons.1 hp).1 z hz; omega
    · rw [decide_eq_false hc, cond_false]
      refine h2 j l[j] (l.drop (j + 1)) ?_ (by rw [List.length_drop]; omega) hp ⟨l[j + 1], by rw [hd1]; exact List.mem_cons_self, by omega⟩
      rw [← hd, List.take_append_drop]
theorem last_gt (x : Int) : ∀ s : List Int, (∃ z ∈ s, x < z) → ∃ A y B, s = A ++ y :: B ∧ x < y ∧ ∀ z ∈ B, z ≤ x
  | [], h => by obtain ⟨z, hz, _⟩ := h; cases hz
  | a :: s, h => by
    by_cases hs : ∃ z ∈ s, x < z
    · obtain ⟨A, y, B, e, h1, h2⟩ := last_gt x s hs
      exact ⟨a :: A, y, B, by rw [e]; rfl, h1, h2⟩
    · obtain ⟨z, hz, hxz⟩ := h
      rcases List.mem_cons.1 hz with rfl | hz
      · exact ⟨[], z, s, rfl, hxz, fun q hq => by
          by_cases hle : q ≤ x
          · exact hle
          · exact absurd ⟨q, hq, by omega⟩ hs⟩
      · exact absurd ⟨z, hz, hxz⟩ hs
theorem np_l2 (M : List Int) (y : Int) (B : List Int) (i : Nat) (x : Int) (hl : (M ++ y :: B).length ≤ 100) (hx : (M ++ y :: B)[i]? = some x) (hxy : x < y) (hB : ∀ z ∈ B, z ≤ x) (kj : Int → Option (Bool × List Int)) : ∀ (q N : Nat), q ≤ B.length → q < N → i_nextPermutation_l2 kj (M ++ y :: B) (i : Int) N ((M.length + q : Nat) : Int) = kj (M.length : Int) := by
  intro q
  simp only [List.length_append, List.length_cons] at hl
  induction q with
  | zero =>
    intro N hq hN
    obtain ⟨N, rfl⟩ := pos_fuel hN
    have e : (M ++ y :: B)[M.length + 0]? = some y := by rw [List.getElem?_append_right (by omega)]; simp
    simp only [i_nextPermutation_l2]
    rw [idx_nat, e, Option.bind_some, idx_nat, hx, Option.bind_some, decide_eq_false (by omega), cond_false]
    rfl
  | succ q ih =>
    intro N hq hN
    obtain ⟨N, rfl⟩ := pos_fuel hN
    have hqB : q < B.length := by omega
    have e : (M ++ y :: B)[M.length + (q + 1)]? = some B[q] := by
      rw [List.getElem?_append_right (by omega), show M.length + (q + 1) - M.length = q + 1 by omega, List.getElem?_cons_succ, List.getElem?_eq_getElem hqB]
    simp only [i_nextPermutation_l2]
    rw [idx_nat, e, Option.bind_some, idx_nat, hx, Option.bind_some, decide_eq_true (hB _ (List.getElem_mem hqB)), cond_true, w64_id (by omega) (by omega)]
    rw [show ((M.length + (q + 1) : Nat) : Int) - 1 = ((M.length + q : Nat) : Int) by omega]
    exact ih N (by omega) (by omega)
theorem set_mid {α : Type} (P : List α) (a b : α) (S : List α) : (P ++ a :: S).set P.length b = P ++ b :: S := by
  rw [List.set_append_right _ _ (Nat.le_refl _)]; simp
theorem get_mid {α : Type} (P : List α) (a : α) (S : List α) : (P ++ a :: S)[P.length]? = some a := by
  rw [List.getElem?_append_right (Nat.le_refl _)]; simp
theorem np_l3 (kj : List Int → Option (Bool × List Int)) : ∀ (q : Nat) (M P S : List Int) (N : Nat), M.length ≤ q → q < N → (P ++ M ++ S).length ≤ 100 →
    i_nextPermutation_l3 kj N (P ++ M ++ S) (P.length : Int) ((P.length : Int) + M.length - 1) = kj (P ++ M.reverse ++ S) := by
  intro q
  induction q with
  | zero =>
    intro M P S N hM hN hl
    obtain ⟨N, rfl⟩ := pos_fuel hN
    have : M = [] := List.length_eq_zero_iff.1 (by omega)
    subst this
    have hz : ¬ (P.length : Int) < (P.length : Int) + (([] : List Int).length : Int) - 1 := by simp; omega
    simp only [i_nextPermutation_l3, hz, decide_false, cond_false, List.reverse_nil]
  | succ q ih =>
    intro M P S N hM hN hl
    obtain ⟨N, rfl⟩ := pos_fuel (show 0 < N by omega)
    match M, hM, hl with
    | [], _, _ =>
      have hz : ¬ (P.length : Int) < (P.length : Int) + (([] : List Int).length : Int) - 1 := by simp; omega
      simp only [i_nextPermutation_l3, hz, decide_false, cond_false, List.reverse_nil]
    | [u], _, _ =>
      have hz : ¬ (P.length : Int) < (P.length : Int) + (([u] : List Int).length : Int) - 1 := by simp
      simp only [i_nextPermutation_l3, hz, decide_false, cond_false, List.reverse_singleton]
    | u :: w :: M, hM, hl =>
      obtain ⟨M', v, e⟩ : ∃ M' v, w :: M = M' ++ [v] := ⟨(w :: M).dropLast, (w :: M).getLast (by simp), (List.dropLast_concat_getLast (by simp)).symm⟩
      rw [e] at hM hl ⊢
      simp only [List.length_cons, List.length_append, List.length_nil] at hM hl
      have hz : (P.length : Int) < (P.length : Int) + ((u :: (M' ++ [v])).length : Int) - 1 := by simp; omega
      have hb : (P.length : Int) + ((u :: (M' ++ [v])).length : Int) - 1 = ((P ++ u :: M').length : Int) := by simp; omega
      have l1 : P ++ (u :: (M' ++ [v])) ++ S = (P ++ u :: M') ++ v :: S := by simp
      have l2 : P ++ (u :: (M' ++ [v])) ++ S = P ++ u :: (M' ++ v :: S) := by simp
      have g1 : idx (P ++ (u :: (M' ++ [v])) ++ S) ((P ++ u :: M').length : Int) = some v := by rw [idx_nat, l1, get_mid]
      have g2 : idx (P ++ (u :: (M' ++ [v])) ++ S) (P.length : Int) = some u := by rw [idx_nat, l2, get_mid]
      have s1 : (P ++ (u :: (M' ++ [v])) ++ S).set (Int.toNat (P.length : Int)) v = (P ++ v :: M') ++ v :: S := by
        rw [Int.toNat_natCast, l2, set_mid]; simp
      have hl2 : (P ++ v :: M').length = (P ++ u :: M').length := by simp
      have g3 : idx ((P ++ v :: M') ++ v :: S) ((P ++ u :: M').length : Int) = some v := by rw [idx_nat, ← hl2, get_mid]
      have s2 : ((P ++ v :: M') ++ v :: S).set (Int.toNat ((P ++ u :: M').length : Int)) u = (P ++ [v]) ++ M' ++ (u :: S) := by
        rw [Int.toNat_natCast, ← hl2, set_mid]; simp
      rw [hb] at hz ⊢
      simp only [i_nextPermutation_l3, hz, decide_true, cond_true, g1, g2, g3, s1, s2, Option.bind_some]
      rw [w64_nat P.length (by omega), w64_id (by simp; omega) (by simp; omega)]
      have h := ih M' (P ++ [v]) (u :: S) N (by omega) (by omega) (by simp; omega)
      have e1 : (((P ++ [v]).length : Nat) : Int) = ((P.length + 1 : Nat) : Int) := by simp
      have e2 : (((P ++ [v]).length : Nat) : Int) + (M'.length : Int) - 1 = ((P ++ u :: M').length : Int) - 1 := by simp; omega
      rw [e2, e1] at h
      rw [h]
      simp
theorem np_ok (l : List Int) (hn : 1 ≤ l.length) (h100 : l.length ≤ 100) (N : Nat) (hN : 300 < N) :
    (i_nextPermutation N l = some (false, l) ∧ l.Pairwise (fun a b => b ≤ a)) ∨ ∃ pre x A y B, Parts l pre x A y B ∧ i_nextPermutation N l = some (true, nxtP pre x A y B) := by
  unfold i_nextPermutation
  simp only [withK_eq]
  have e0 : w64 ((l.length : Int) - 2) = (((l.length - 1 : Nat) : Int) - 1) := by rw [w64_id (by omega) (by omega)]; omega
  rw [e0]
  refine np_l1 l hn h100 _ (fun r => (r = some (false, l) ∧ l.Pairwise (fun a b => b ≤ a)) ∨ ∃ pre x A y B, Parts l pre x A y B ∧ r = some (true, nxtP pre x A y B)) (fun h => .inl ⟨by simp, h⟩) (fun i x s hl hi hp hs => ?_) (l.length - 1) N (by omega) ?_ (by omega)
  · right
    obtain ⟨A, y, B, rfl, hxy, hB⟩ := last_gt x s hs
    refine ⟨l.take i, x, A, y, B, ⟨hl, hxy, hB, hp⟩, ?_⟩
    simp only [List.length_append, List.length_cons] at hi
    have hti : (l.take i).length = i := by rw [List.length_take]; omega
    generalize l.take i = P at hl hti
    subst hti
    have hl2 : l = (P ++ x :: A) ++ y :: B := by rw [hl]; simp
    rw [decide_eq_false (by omega), cond_false]
    have hM : (P ++ x :: A).length = P.length + A.length + 1 := by simp; omega
    have hk : w64 ((l.length : Int) - 1) = (((P ++ x :: A).length + B.length : Nat) : Int) := by rw [w64_id (by omega) (by omega), hM]; omega
    have hx : l[P.length]? = some x := by rw [hl, get_mid]
    rw [hk]
    have e2 := np_l2 (P ++ x :: A) y B P.length x (by rw [← hl2]; exact h100) (by rw [← hl2]; exact hx) hxy hB (fun k16 =>
      (idx l k16).bind fun e25 => (idx l (P.length : Int)).bind fun e27 => (idx l (P.length : Int)).bind fun e29 => (idx (List.set l (Int.toNat (P.length : Int)) e25) k16).bind fun e31 =>
      i_nextPermutation_l3 (fun l34 => some (true, l34)) N (List.set (List.set l (Int.toNat (P.length : Int)) e25) (Int.toNat k16) e27) (w64 ((P.length : Int) + 1)) (w64 ((List.length (List.set (List.set l (Int.toNat (P.length : Int)) e25) (Int.toNat k16) e27) : Int) - 1))) B.length N (Nat.le_refl _) (by omega)
    rw [← hl2] at e2
    rw [e2]
    have g1 : idx l ((P ++ x :: A).length : Int) = some y := by rw [idx_nat, hl2, get_mid]
    have g2 : idx l (P.length : Int) = some x := by rw [idx_nat, hx]
    have s1 : l.set (Int.toNat (P.length : Int)) y = (P ++ y :: A) ++ y :: B := by rw [Int.toNat_natCast, hl, set_mid]; simp
    have hlen : (P ++ y :: A).length = (P ++ x :: A).length := by simp
    have g3 : idx ((P ++ y :: A) ++ y :: B) ((P ++ x :: A).length : Int) = some y := by rw [idx_nat, ← hlen, get_mid]
    have s2 : ((P ++ y :: A) ++ y :: B).set (Int.toNat ((P ++ x :: A).length : Int)) x = (P ++ [y]) ++ (A ++ x :: B) ++ [] := by rw [Int.toNat_natCast, ← hlen, set_mid]; simp
    simp only [g1, g2, g3, s1, s2, Option.bind_some]
    rw [w64_nat P.length (by omega), w64_id (by simp; omega) (by simp; omega)]
    have h3 := np_l3 (fun l34 => some (true, l34)) (A ++ x :: B).length (A ++ x :: B) (P ++ [y]) [] N (Nat.le_refl _) (by simp; omega) (by simp; omega)
    have e3 : (((P ++ [y]).length : Nat) : Int) = ((P.length + 1 : Nat) : Int) := by simp
    have e4 : (((P ++ [y]).length : Nat) : Int) + ((A ++ x :: B).length : Int) - 1 = ((((P ++ [y]) ++ (A ++ x :: B) ++ []) : List Int).length : Int) - 1 := by simp; omega
    rw [e4, e3] at h3
    rw [h3]
    simp [nxtP]
  · have : l.drop (l.length - 1) = [l[l.length - 1]'(by omega)] := by
      rw [List.drop_eq_getElem_cons (by omega)]
      rw [List.drop_eq_nil_of_le (by omega)]
    rw [this]
    simp
theorem np_next (b : Nat) (l : List Int) (hd : Dg b l) (hn : 1 ≤ l.length) (h100 : l.length ≤ 100) (N : Nat) (hN : 300 < N) :
    (i_nextPermutation N l = some (false, l) ∧ ∀ m : List Int, m.Perm l → lxle m l) ∨ ∃ l', i_nextPermutation N l = some (true, l') ∧ l'.Perm l ∧ vl b l < vl b l' ∧ ∀ m : List Int, m.Perm l → lxle m l ∨ lxle l' m := by
  rcases np_ok l hn h100 N hN with ⟨h1, h2⟩ | ⟨pre, x, A, y, B, ⟨rfl, h1, h2, h3⟩, h4⟩
  · exact .inl ⟨h1, fun m hm => desc_max l m h2 hm⟩
  · exact .inr ⟨_, h4, nxt_perm pre x A y B, vl_nxt b x y A B h1 pre hd, fun m hm => nxt_between x y A B h1 h2 h3 pre m hm⟩
end Go.Proofs.Ythpdpfagfkopnaa
