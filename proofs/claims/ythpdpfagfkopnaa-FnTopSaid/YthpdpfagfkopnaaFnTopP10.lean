/-
  Plain lemmas on these functions. No conditions but those that each states.
-/
import Derived.Test.YthpdpfagfkopnaaFnTopP9
namespace Go.Proofs.Ythpdpfagfkopnaa
set_option linter.unusedVariables false
set_option linter.unusedSimpArgs false
/-! The table of the least numbers, and the alignment. -/
theorem step_ok (a b : Str) (s : UInt8) (hs : s ∈ Sx) : (∃ (di dk : Nat) (e : Int), stp a b s = some (di, dk, e) ∧ i_stepAt a b s = some ((di : Int), (dk : Int), e, true)) ∨ (stp a b s = none ∧ ∃ x y z, i_stepAt a b s = some (x, y, z, false)) := by
  have hb : ∀ (x : UInt8) (l : Str), ((x :: l) != ([] : Str)) = true := fun _ _ => rfl
  have hn : (([] : Str) != ([] : Str)) = false := rfl
  simp only [Sx, List.mem_cons, List.not_mem_nil, or_false] at hs
  unfold i_stepAt
  rw [andO_some, Option.bind_some]
  rcases hs with rfl | rfl | rfl | rfl | rfl
  · simp only [show ((43 : UInt8) == 61) = false from rfl, show ((43 : UInt8) == 120) = false from rfl, show ((43 : UInt8) == 45) = false from rfl, show ((43 : UInt8) == 43) = true from rfl, cond_false, cond_true]
    cases b with
    | nil => exact .inr ⟨rfl, _, _, _, rfl⟩
    | cons y b => exact .inl ⟨0, 1, 1, rfl, rfl⟩
  · simp only [show ((45 : UInt8) == 61) = false from rfl, show ((45 : UInt8) == 120) = false from rfl, show ((45 : UInt8) == 45) = true from rfl, cond_false, cond_true]
    cases a with
    | nil => exact .inr ⟨rfl, _, _, _, rfl⟩
    | cons x a => exact .inl ⟨1, 0, 1, rfl, rfl⟩
  · simp only [show ((61 : UInt8) == 61) = true from rfl, cond_true]
    match a, b with
    | [], _ => exact .inr ⟨rfl, _, _, _, rfl⟩
    | x :: a, [] => exact .inr ⟨rfl, _, _, _, rfl⟩
    | x :: a, y :: b =>
      have h1 : idx (x :: a) 0 = some x := rfl
      have h2 : idx (y :: b) 0 = some y := rfl
      rw [hb, hb, h1, h2]
      simp only [Bool.and_self, andO_true, Option.bind_some]
      by_cases hxy : x = y
      · subst hxy
        exact .inl ⟨1, 1, 0, by rw [stp_eq]; simp, by rw [beq_self_eq_true]; rfl⟩
      · exact .inr ⟨by rw [stp_eq]; simp [hxy], _, _, _, by rw [beq_eq_false_iff_ne.2 hxy]⟩
  · simp only [show ((120 : UInt8) == 61) = false from rfl, show ((120 : UInt8) == 120) = true from rfl, cond_false, cond_true]
    match a, b with
    | [], _ => exact .inr ⟨rfl, _, _, _, rfl⟩
    | x :: a, [] => exact .inr ⟨rfl, _, _, _, rfl⟩
    | x :: a, y :: b =>
      have h1 : idx (x :: a) 0 = some x := rfl
      have h2 : idx (y :: b) 0 = some y := rfl
      rw [hb, hb, h1, h2]
      simp only [Bool.and_self, andO_true, Option.bind_some]
      by_cases hxy : x = y
      · subst hxy
        exact .inr ⟨by rw [stp_x]; simp, _, _, _, by rw [bne_self_eq_false]⟩
      · exact .inl ⟨1, 1, 1, by rw [stp_x]; simp [hxy], by rw [bne_iff_ne.2 hxy]; rfl⟩
  · simp only [show ((126 : UInt8) == 61) = false from rfl, show ((126 : UInt8) == 120) = false from rfl, show ((126 : UInt8) == 45) = false from rfl, show ((126 : UInt8) == 43) = false from rfl, show ((126 : UInt8) == 126) = true from rfl, cond_false, cond_true]
    match a, b with
    | [], _ => exact .inr ⟨rfl, _, _, _, rfl⟩
    | [_], _ => exact .inr ⟨rfl, _, _, _, rfl⟩
    | _ :: _ :: a, [] =>
      refine .inr ⟨rfl, 2, 2, 1, ?_⟩
      rw [decide_eq_false (show ¬ (([] : Str).length : Int) > 1 by simp), andO_some, Bool.and_false]; rfl
    | _ :: _ :: a, [_] =>
      refine .inr ⟨rfl, 2, 2, 1, ?_⟩
      rw [decide_eq_false (show ¬ ((List.length [_] : Nat) : Int) > 1 by simp), andO_some, Bool.and_false]; rfl
    | x :: x2 :: a, y :: y2 :: b =>
      have h1 : idx (x :: x2 :: a) 0 = some x := rfl
      have h2 : idx (y :: y2 :: b) 0 = some y := rfl
      have h3 : idx (x :: x2 :: a) 1 = some x2 := rfl
      have h4 : idx (y :: y2 :: b) 1 = some y2 := rfl
      rw [decide_eq_true (show ((x :: x2 :: a).length : Int) > 1 by simp only [List.length_cons]; omega), decide_eq_true (show ((y :: y2 :: b).length : Int) > 1 by simp only [List.length_cons]; omega), h1, h2, h3, h4]
      simp only [andO_true, Option.bind_some, andO_some]
      by_cases hc : x ≠ x2 ∧ x = y2 ∧ x2 = y
      · obtain ⟨g1, rfl, rfl⟩ := hc
        refine .inl ⟨2, 2, 1, by rw [stp_swap]; simp [g1], ?_⟩
        rw [bne_iff_ne.2 g1, beq_self_eq_true, beq_self_eq_true]; rfl
      · refine .inr ⟨by rw [stp_swap]; simp only [hc, if_false], 2, 2, 1, ?_⟩
        have : (x != x2 && x == y2 && x2 == y) = false := by
          rw [Bool.eq_false_iff]
          intro h
          rw [Bool.and_eq_true, Bool.and_eq_true, bne_iff_ne, beq_iff_eq, beq_iff_eq] at h
          exact hc ⟨h.1.1, h.1.2, h.2⟩
        simp only [Bool.and_self, Bool.true_and, this]
theorem subE (a : Str) (i : Nat) (h : i ≤ a.length) : sub a (i : Int) (a.length : Int) = some (a.drop i) := by
  rw [sub_some a i _ (by omega) (by omega) (by omega)]
  have e1 : ((i : Int)).toNat = i := by omega
  have e2 : ((a.length : Int)).toNat = a.length := by omega
  rw [e1, e2, List.take_of_length_le (by rw [List.length_drop]; omega)]
def gt (T : List (List Int)) (i k : Nat) : Option Int := (T[i]?).bind fun r => r[k]?
def Sh (n m : Nat) (T : List (List Int)) : Prop := T.length = n + 1 ∧ ∀ r ∈ T, r.length = m + 1
theorem gt_some {T : List (List Int)} {i k : Nat} {v : Int} (h : gt T i k = some v) : ∃ r, idx T (i : Int) = some r ∧ idx r (k : Int) = some v ∧ T[i]? = some r := by
  unfold gt at h
  cases hr : T[i]? with
  | none => rw [hr] at h; cases h
  | some r => rw [hr] at h; exact ⟨r, by rw [idx_nat, hr], by rw [idx_nat]; exact h, rfl⟩
theorem gt_set {n m : Nat} {T : List (List Int)} (hT : Sh n m T) {i k : Nat} (hi : i ≤ n) (hk : k ≤ m) {r : List Int} (hr : T[i]? = some r) (v : Int) : Sh n m (T.set i (r.set k v)) ∧ gt (T.set i (r.set k v)) i k = some v ∧ ∀ i' k', (i' ≠ i ∨ k' ≠ k) → gt (T.set i (r.set k v)) i' k' = gt T i' k' := by
  have hrl := hT.2 r (List.mem_of_getElem? hr)
  have hil := lt_of_some hr
  refine ⟨⟨by simpa using hT.1, fun x hx => ?_⟩, ?_, fun i' k' h => ?_⟩
  · rcases List.mem_or_eq_of_mem_set hx with hx | rfl
    · exact hT.2 x hx
    · simpa using hrl
  · unfold gt
    rw [List.getElem?_set_self hil]
    show (r.set k v)[k]? = some v
    rw [List.getElem?_set_self (by omega)]
  · unfold gt
    by_cases h1 : i' = i
    · subst h1
      rw [List.getElem?_set_self hil, hr]
      show (r.set k v)[k']? = r[k']?
      rw [List.getElem?_set_ne (fun e => by rcases h with h | h; exact h rfl; exact h e.symm)]
    · rw [List.getElem?_set_ne (fun e => h1 e.symm)]
theorem lf_l1 (b : Str) (hb : b.length ≤ 60) (l3 : List (List Int)) (hl3 : l3.length ≤ 100) (kj : List (List Int) → Option (List (List Int))) (Q : Option (List (List Int)) → Prop) : ∀ (q x N : Nat) (T : List (List Int)), x + q = l3.length → q < N → T.length = l3.length → (∀ j r, j < x → T[j]? = some r → r.length = b.length + 1) →
    (∀ T', T'.length = l3.length → (∀ r ∈ T', r.length = b.length + 1) → Q (kj T')) → Q (i_leastFrom_l1 kj b l3 N T (x : Int)) := by
  intro q
  induction q with
  | zero =>
    intro x N T hx hN hT h k
    obtain ⟨N, rfl⟩ := pos_fuel hN
    have hz : ¬ (x : Int) < (l3.length : Int) := by omega
    simp only [i_leastFrom_l1, hz, decide_false, cond_false]
    refine k T hT fun r hr => ?_
    obtain ⟨j, hj, e⟩ := List.getElem_of_mem hr
    exact h j r (by omega) (by rw [List.getElem?_eq_getElem hj, e])
  | succ q ih =>
    intro x N T hx hN hT h k
    obtain ⟨N, rfl⟩ := pos_fuel hN
    have hz : (x : Int) < (l3.length : Int) := by omega
    have hlt : x < T.length := by omega
    have hm : mk ((b.length + 1 : Nat) : Int) (0 : Int) = some (List.replicate (b.length + 1) 0) := mk_some _ 0 (by unfold LIM; omega)
    simp only [i_leastFrom_l1, hz, decide_true, cond_true]
    rw [w64_nat b.length (by omega), hm, Option.bind_some, idx_lt T x hlt, Option.bind_some, w64_nat x (by omega), Int.toNat_natCast]
    refine ih (x + 1) N _ (by omega) (by omega) (by simpa using hT) (fun j r hj hr => ?_) k
    by_cases hjx : j = x
    · subst hjx
      rw [List.getElem?_set_self hlt] at hr
      obtain rfl := Option.some.inj hr
      simp
    · rw [List.getElem?_set_ne (fun e => hjx e.symm)] at hr
      exact h j r (by omega) hr
/-- what is done, from place k of row i on -/
def Dn (a b : Str) (i k : Nat) (T : List (List Int)) : Prop := ∀ i' k', i' ≤ a.length → k' ≤ b.length → (i < i' ∨ i = i' ∧ k ≤ k') → gt T i' k' = some (lev (a.drop i') (b.drop k'))
theorem lf_l4 (a b : Str) (ha : a.length ≤ 60) (hb : b.length ≤ 60) (i k : Nat) (hi : i ≤ a.length) (hk : k ≤ b.length) (T : List (List Int)) (hT : ∀ di dk : Nat, i + di ≤ a.length → k + dk ≤ b.length → 1 ≤ di + dk → gt T (i + di) (k + dk) = some (lev (a.drop (i + di)) (b.drop (k + dk)))) (kj : Int → Option (List (List Int))) :
    ∀ (q x N : Nat) (best : Int), x + q = 5 → q < N → -1 ≤ best → best ≤ 1000 → i_leastFrom_l4 kj a b (i : Int) T (k : Int) N best (x : Int) = kj ((Sx.drop x).foldl (fb lev (a.drop i) (b.drop k)) best) := by
  intro q
  induction q with
  | zero =>
    intro x N best hx hN h0 h1
    obtain ⟨N, rfl⟩ := pos_fuel hN
    have hz : ¬ (x : Int) < (([43, 45, 61, 120, 126] : List Nat).length : Int) := by show ¬ (x : Int) < 5; omega
    simp only [i_leastFrom_l4, hz, decide_false, cond_false]
    have hS : Sx.drop x = [] := List.drop_eq_nil_of_le (by show 5 ≤ x; omega)
    rw [hS]
    rfl
  | succ q ih =>
    intro x N best hx hN h0 h1
    obtain ⟨N, rfl⟩ := pos_fuel hN
    have hz : (x : Int) < (([43, 45, 61, 120, 126] : List Nat).length : Int) := by show (x : Int) < 5; omega
    have hlt : x < Sx.length := by show x < 5; omega
    have hi5 : idx ([43, 45, 61, 120, 126] : List UInt8) (x : Int) = some Sx[x] := idx_lt Sx x hlt
    simp only [i_leastFrom_l4, hz, decide_true, cond_true, withK_eq]
    rw [hi5, Option.bind_some, subE a i hi, Option.bind_some, subE b k hk, Option.bind_some, w64_nat x (by omega), List.drop_eq_getElem_cons hlt, List.foldl_cons]
    rcases step_ok (a.drop i) (b.drop k) Sx[x] (List.getElem_mem hlt) with ⟨di, dk, e, g1, g2⟩ | ⟨g1, _, _, _, g2⟩
    · have hd := stp_dec g1
      rw [List.length_drop, List.length_drop] at hd
      have hg := hT di dk (by omega) (by omega) hd.2.2.1
      obtain ⟨r, r1, r2, _⟩ := gt_some hg
      have hu := lev_up (a.drop (i + di)) (b.drop (k + dk))
      have hnn := lev_nn (a.drop (i + di)) (b.drop (k + dk))
      rw [List.length_drop, List.length_drop] at hu
      have hw1 : w64 ((i : Int) + (di : Int)) = ((i + di : Nat) : Int) := by rw [w64_id (by omega) (by omega)]; omega
      have hw2 : w64 ((k : Int) + (dk : Int)) = ((k + dk : Nat) : Int) := by rw [w64_id (by omega) (by omega)]; omega
      have hfb : fb lev (a.drop i) (b.drop k) best Sx[x] = if best < 0 ∨ lev (a.drop (i + di)) (b.drop (k + dk)) + e < best then lev (a.drop (i + di)) (b.drop (k + dk)) + e else best := by
        unfold fb; rw [g1]; simp only [List.drop_drop]
      rw [g2, Option.bind_some]
      simp only [andO_true]
      rw [hw1, hw2, r1]
      simp only [Option.bind_some]
      rw [r2]
      simp only [Option.bind_some]
      rw [w64_id (x := lev (a.drop (i + di)) (b.drop (k + dk)) + e) (by omega) (by omega), orO_some, Option.bind_some, Option.bind_some, hfb]
      by_cases hc : best < 0 ∨ lev (a.drop (i + di)) (b.drop (k + dk)) + e < best
      · have : (decide (best < 0) || decide (lev (a.drop (i + di)) (b.drop (k + dk)) + e < best)) = true := by
          rw [Bool.or_eq_true]; exact hc.imp decide_eq_true decide_eq_true
        rw [this, cond_true, if_pos hc]
        exact ih (x + 1) N _ (by omega) (by omega) (by omega) (by omega)
      · have c1 : ¬ best < 0 := fun h => hc (.inl h)
        have c2 : ¬ lev (a.drop (i + di)) (b.drop (k + dk)) + e < best := fun h => hc (.inr h)
        rw [decide_eq_false c1, decide_eq_false c2, Bool.or_self, cond_false, if_neg hc]
        exact ih (x + 1) N _ (by omega) (by omega) h0 h1
    · have hfb : fb lev (a.drop i) (b.drop k) best Sx[x] = best := by unfold fb; rw [g1]
      rw [g2, Option.bind_some]
      simp only [andO_false, Option.bind_some, cond_false]
      rw [hfb]
      exact ih (x + 1) N _ (by omega) (by omega) h0 h1
theorem lf_l3 (a b : Str) (ha : a.length ≤ 60) (hb : b.length ≤ 60) (i : Nat) (hi : i ≤ a.length) (kj : List (List Int) → Option (List (List Int))) (Q : Option (List (List Int)) → Prop) (k0 : ∀ T, Sh a.length b.length T → Dn a b i 0 T → Q (kj T)) : ∀ (j N : Nat) (T : List (List Int)), j ≤ b.length + 1 → j + 20 < N → Sh a.length b.length T → Dn a b i j T → Q (i_leastFrom_l3 kj a b (i : Int) N T ((j : Int) - 1)) := by
  intro j
  induction j with
  | zero =>
    intro N T hj hN hT hD
    obtain ⟨N, rfl⟩ := pos_fuel (show 0 < N by omega)
    have hz : ¬ ((0 : Nat) : Int) - 1 ≥ 0 := by omega
    simp only [i_leastFrom_l3, hz, decide_false, cond_false]
    exact k0 T hT hD
  | succ j ih =>
    intro N T hj hN hT hD
    obtain ⟨N, rfl⟩ := pos_fuel (show 0 < N by omega)
    have e : (((j + 1 : Nat) : Int) - 1) = (j : Int) := by omega
    have hz : (j : Int) ≥ 0 := by omega
    rw [e]
    simp only [i_leastFrom_l3, hz, decide_true, cond_true, withK_eq]
    rw [w64_id (x := (j : Int) - 1) (by omega) (by omega)]
    have e4 := lf_l4 a b ha hb i j hi (by omega) T (fun di dk q1 q2 q3 => hD (i + di) (j + dk) q1 q2 (by omega)) (fun best38 => (idx T (i : Int)).bind fun e78 => (idx e78 (j : Int)).bind fun e82 => i_leastFrom_l3 kj a b (i : Int) N (List.set T (Int.toNat (i : Int)) (List.set e78 (Int.toNat (j : Int)) (imax best38 0))) ((j : Int) - 1)) 5 0 N (-1) (by omega) (by omega) (by omega) (by omega)
    rw [show ((0 : Nat) : Int) = 0 from rfl, List.drop_zero] at e4
    rw [e4]
    have hil : i < T.length := by rw [hT.1]; omega
    have hrl : (T[i]).length = b.length + 1 := hT.2 _ (List.getElem_mem hil)
    rw [idx_lt T i hil, Option.bind_some, idx_lt T[i] j (by omega), Option.bind_some, Int.toNat_natCast, Int.toNat_natCast, ← lev_eq]
    obtain ⟨g1, g2, g3⟩ := gt_set hT hi (show j ≤ b.length by omega) (List.getElem?_eq_getElem hil) (lev (a.drop i) (b.drop j))
    refine ih N _ (by omega) (by omega) g1 fun i' k' q1 q2 q3 => ?_
    by_cases hc : i' = i ∧ k' = j
    · obtain ⟨rfl, rfl⟩ := hc; exact g2
    · rw [g3 i' k' (by
        by_cases h1 : i' = i
        · exact .inr fun h2 => hc ⟨h1, h2⟩
        · exact .inl h1)]
      refine hD i' k' q1 q2 ?_
      rcases q3 with q3 | ⟨rfl, q3⟩
      · exact .inl q3
      · exact .inr ⟨rfl, by
          have : k' ≠ j := fun h2 => hc ⟨rfl, h2⟩
          omega⟩
theorem lf_l2 (a b : Str) (ha : a.length ≤ 60) (hb : b.length ≤ 60) (kj : List (List Int) → Option (List (List Int))) (Q : Option (List (List Int)) → Prop) (k0 : ∀ T, Sh a.length b.length T → (∀ i k, i ≤ a.length → k ≤ b.length → gt T i k = some (lev (a.drop i) (b.drop k))) → Q (kj T)) : ∀ (j N : Nat) (T : List (List Int)), j ≤ a.length + 1 → j + 100 < N → Sh a.length b.length T → (∀ i k, j ≤ i → i ≤ a.length → k ≤ b.length → gt T i k = some (lev (a.drop i) (b.drop k))) → Q (i_leastFrom_l2 kj a b N T ((j : Int) - 1)) := by
  intro j
  induction j with
  | zero =>
    intro N T hj hN hT hD
    obtain ⟨N, rfl⟩ := pos_fuel (show 0 < N by omega)
    have hz : ¬ ((0 : Nat) : Int) - 1 ≥ 0 := by omega
    simp only [i_leastFrom_l2, hz, decide_false, cond_false]
    exact k0 T hT fun i k q1 q2 => hD i k (Nat.zero_le _) q1 q2
  | succ j ih =>
    intro N T hj hN hT hD
    obtain ⟨N, rfl⟩ := pos_fuel (show 0 < N by omega)
    have e : (((j + 1 : Nat) : Int) - 1) = (j : Int) := by omega
    have hz : (j : Int) ≥ 0 := by omega
    rw [e]
    simp only [i_leastFrom_l2, hz, decide_true, cond_true, withK_eq]
    rw [w64_id (x := (j : Int) - 1) (by omega) (by omega), show (b.length : Int) = ((b.length + 1 : Nat) : Int) - 1 by omega]
    refine lf_l3 a b ha hb j (by omega) _ Q (fun T' g1 g2 => ?_) (b.length + 1) N T (Nat.le_refl _) (by omega) hT fun i' k' q1 q2 q3 => hD i' k' (by omega) q1 q2
    refine ih N T' (by omega) (by omega) g1 fun i k q0 q1 q2 => g2 i k q1 q2 ?_
    by_cases h : j = i
    · exact .inr ⟨h, Nat.zero_le _⟩
    · exact .inl (by omega)
theorem lf_ok (a b : Str) (ha : a.length ≤ 60) (hb : b.length ≤ 60) (N : Nat) (hN : 300 < N) : ∃ T, i_leastFrom N a b = some T ∧ Sh a.length b.length T ∧ ∀ i k, i ≤ a.length → k ≤ b.length → gt T i k = some (lev (a.drop i) (b.drop k)) := by
  unfold i_leastFrom
  have hm : mk ((a.length + 1 : Nat) : Int) ([] : List Int) = some (List.replicate (a.length + 1) []) := mk_some _ [] (by unfold LIM; omega)
  rw [w64_nat a.length (by omega), hm, Option.bind_some]
  simp only [withK_eq]
  have := lf_l1 b hb (List.replicate (a.length + 1) []) (by simp; omega) (fun l6 => i_leastFrom_l2 (fun l23 => some l23) a b N l6 (a.length : Int)) (fun r => ∃ T, r = some T ∧ Sh a.length b.length T ∧ ∀ i k, i ≤ a.length → k ≤ b.length → gt T i k = some (lev (a.drop i) (b.drop k))) (a.length + 1) 0 N (List.replicate (a.length + 1) []) (by simp) (by omega) rfl (fun j r hj => by omega) fun T' g1 g2 => by
    rw [show (a.length : Int) = ((a.length + 1 : Nat) : Int) - 1 by omega]
    exact lf_l2 a b ha hb (fun l23 => some l23) (fun r => ∃ T, r = some T ∧ Sh a.length b.length T ∧ ∀ i k, i ≤ a.length → k ≤ b.length → gt T i k = some (lev (a.drop i) (b.drop k))) (fun T h1 h2 => ⟨T, rfl, h1, h2⟩) (a.length + 1) N T' (Nat.le_refl _) (by omega) ⟨by rw [g1]; simp, g2⟩ fun i k q0 q1 q2 => by omega
  exact this
/-- texts that can be typed -/
def TX (s : Str) : Prop := s.length ≤ 60 ∧ ∀ c ∈ s, 32 ≤ c.toNat ∧ c.toNat ≤ 126
theorem tx_l1 (s : Str) (hc : TX s) : ∀ (n i N : Nat), i + n = s.length → n < N → i_isText_l1 (some true) s 32 N (i : Int) = some true := by
  have hl := hc.1
  intro n
  induction n with
  | zero =>
    intro i N hi hN
    obtain ⟨N, rfl⟩ := pos_fuel hN
    have hz : ¬ (i : Int) < (s.length : Int) := by omega
    simp only [i_isText_l1, hz, decide_false, cond_false]
  | succ n ih =>
    intro i N hi hN
    obtain ⟨N, rfl⟩ := pos_fuel hN
    have hz : (i : Int) < (s.length : Int) := by omega
    have hlt : i < s.length := by omega
    have hci := hc.2 _ (List.getElem_mem hlt)
    have d1 : decide (s[i] < (32 : UInt8)) = false := decide_eq_false (by rw [UInt8.lt_iff_toNat_lt]; show ¬ s[i].toNat < 32; omega)
    have d2 : decide (s[i] > (126 : UInt8)) = false := decide_eq_false (by show ¬ (126 : UInt8) < s[i]; rw [UInt8.lt_iff_toNat_lt]; show ¬ 126 < s[i].toNat; omega)
    simp only [i_isText_l1, hz, decide_true, cond_true, idx_lt s i hlt, Option.bind_some, d1, d2, orO_false, cond_false]
    rw [w64_nat i (by omega)]
    exact ih (i + 1) N (by omega) (by omega)
theorem tx_ok (s : Str) (hc : TX s) (N : Nat) (hN : 100 < N) : i_isTyped N s = some true := by
  have hl := hc.1
  unfold i_isTyped i_isText
  rw [decide_eq_false (by omega), cond_false]
  simp only [withK_eq]
  have := tx_l1 s hc s.length 0 N (by omega) (by omega)
  rw [show ((0 : Nat) : Int) = 0 from rfl] at this
  rw [this]; rfl
theorem le_ok (a b : Str) (ha : TX a) (hb : TX b) (N : Nat) (hN : 400 < N) : i_LeastErrors N a b = some (lev a b, 0) := by
  obtain ⟨T, e, h1, h2⟩ := lf_ok a b ha.1 hb.1 N (by omega)
  obtain ⟨r, r1, r2, _⟩ := gt_some (h2 0 0 (Nat.zero_le _) (Nat.zero_le _))
  rw [show ((0 : Nat) : Int) = 0 from rfl] at r1 r2
  unfold i_LeastErrors
  rw [tx_ok a ha N (by omega), Option.bind_some, tx_ok b hb N (by omega)]
  simp only [Bool.not_true, orO_false, Option.bind_some, cond_false]
  rw [e, Option.bind_some, r1, Option.bind_some, r2, Option.bind_some]
  rfl
/-- the alignment -/
def fst1 (a b : Str) : List UInt8 → Option (UInt8 × Nat × Nat)
  | [] => none
  | s :: r => match stp a b s with
    | some (di, dk, e) => if lev (a.drop di) (b.drop dk) + e = lev a b then some (s, di, dk) else fst1 a b r
    | none => fst1 a b r
def algF : Nat → Str → Str → Str
  | 0, _, _ => []
  | n + 1, a, b => match fst1 a b Sx with
    | some (s, di, dk) => s :: algF n (a.drop di) (b.drop dk)
    | none => []
def alg (a b : Str) : Str := algF (a.length + b.length) a b
theorem fst1_spec (a b : Str) : ∀ l : List UInt8, (∀ s di dk, fst1 a b l = some (s, di, dk) → s ∈ l ∧ ∃ e, stp a b s = some (di, dk, e) ∧ lev a b = lev (a.drop di) (b.drop dk) + e) ∧ (fst1 a b l = none → ∀ s ∈ l, ∀ di dk e, stp a b s = some (di, dk, e) → lev a b ≠ lev (a.drop di) (b.drop dk) + e)
  | [] => ⟨fun s di dk h => by simp [fst1] at h, fun _ s hs => by cases hs⟩
  | s :: r => by
    obtain ⟨h1, h2⟩ := fst1_spec a b r
    unfold fst1
    cases hs : stp a b s with
    | none =>
      refine ⟨fun s' di dk h => ?_, fun h s' hs' di dk e hst => ?_⟩
      · obtain ⟨g1, g2⟩ := h1 s' di dk h
        exact ⟨List.mem_cons_of_mem _ g1, g2⟩
      · rcases List.mem_cons.1 hs' with rfl | hs'
        · rw [hs] at hst; cases hst
        · exact h2 h s' hs' di dk e hst
    | some t =>
      obtain ⟨d1, d2, e1⟩ := t
      simp only
      by_cases hc : lev (a.drop d1) (b.drop d2) + e1 = lev a b
      · rw [if_pos hc]
        refine ⟨fun s' di dk h => ?_, fun h => by cases h⟩
        obtain ⟨rfl, rfl, rfl⟩ : s = s' ∧ d1 = di ∧ d2 = dk := by simpa using h
        exact ⟨List.mem_cons_self, e1, hs, hc.symm⟩
      · rw [if_neg hc]
        refine ⟨fun s' di dk h => ?_, fun h s' hs' di dk e hst => ?_⟩
        · obtain ⟨g1, g2⟩ := h1 s' di dk h
          exact ⟨List.mem_cons_of_mem _ g1, g2⟩
        · rcases List.mem_cons.1 hs' with rfl | hs'
          · rw [hs] at hst
            obtain ⟨rfl, rfl, rfl⟩ : d1 = di ∧ d2 = dk ∧ e1 = e := by simpa using hst
            exact fun g => hc g.symm
          · exact h2 h s' hs' di dk e hst
theorem fst1_ex {a b : Str} (h : a ≠ [] ∨ b ≠ []) : ∃ s di dk, fst1 a b Sx = some (s, di, dk) := by
  cases hf : fst1 a b Sx with
  | some t => exact ⟨t.1, t.2.1, t.2.2, rfl⟩
  | none =>
    obtain ⟨s, q1, di, dk, e, q2, q3⟩ := lev_ex h
    exact absurd q3 ((fst1_spec a b Sx).2 hf s q1 di dk e q2)
theorem al_l2 (a b : Str) (ha : a.length ≤ 60) (hb : b.length ≤ 60) (T : List (List Int)) (hT : ∀ i k, i ≤ a.length → k ≤ b.length → gt T i k = some (lev (a.drop i) (b.drop k))) (i k : Nat) (hi : i ≤ a.length) (hk : k ≤ b.length) (acc : Str) (hacc : acc.length ≤ 1000) (s0 : UInt8) (d1 d2 : Nat) (kj : List UInt8 → Int → Int → Option Str) :
    ∀ (q x N : Nat), x + q = 5 → q < N → fst1 (a.drop i) (b.drop k) (Sx.drop x) = some (s0, d1, d2) → i_alignment_l2 kj a b T N acc (i : Int) (k : Int) (x : Int) = kj (acc ++ [s0]) ((i + d1 : Nat) : Int) ((k + d2 : Nat) : Int) := by
  intro q
  induction q with
  | zero =>
    intro x N hx hN hf
    have hS : Sx.drop x = [] := List.drop_eq_nil_of_le (by show 5 ≤ x; omega)
    rw [hS] at hf
    cases hf
  | succ q ih =>
    intro x N hx hN hf
    obtain ⟨N, rfl⟩ := pos_fuel hN
    have hz : (x : Int) < (([43, 45, 61, 120, 126] : List Nat).length : Int) := by show (x : Int) < 5; omega
    have hlt : x < Sx.length := by show x < 5; omega
    have hi5 : idx ([43, 45, 61, 120, 126] : List UInt8) (x : Int) = some Sx[x] := idx_lt Sx x hlt
    rw [List.drop_eq_getElem_cons hlt] at hf
    unfold fst1 at hf
    simp only [i_alignment_l2, hz, decide_true, cond_true]
    rw [hi5, Option.bind_some, subE a i hi, Option.bind_some, subE b k hk, Option.bind_some, w64_nat x (by omega)]
    rcases step_ok (a.drop i) (b.drop k) Sx[x] (List.getElem_mem hlt) with ⟨di, dk, e, g1, g2⟩ | ⟨g1, _, _, _, g2⟩
    · have hd := stp_dec g1
      rw [List.length_drop, List.length_drop] at hd
      obtain ⟨r, r1, r2, _⟩ := gt_some (hT (i + di) (k + dk) (by omega) (by omega))
      obtain ⟨r', r3, r4, _⟩ := gt_some (hT i k hi hk)
      have hu := lev_up (a.drop (i + di)) (b.drop (k + dk))
      have hnn := lev_nn (a.drop (i + di)) (b.drop (k + dk))
      rw [List.length_drop, List.length_drop] at hu
      have hw1 : w64 ((i : Int) + (di : Int)) = ((i + di : Nat) : Int) := by rw [w64_id (by omega) (by omega)]; omega
      have hw2 : w64 ((k : Int) + (dk : Int)) = ((k + dk : Nat) : Int) := by rw [w64_id (by omega) (by omega)]; omega
      rw [g1] at hf
      simp only [List.drop_drop] at hf
      rw [g2, Option.bind_some]
      simp only [andO_true]
      rw [hw1, hw2, r1, r3]
      simp only [Option.bind_some]
      rw [r2, r4]
      simp only [Option.bind_some]
      rw [w64_id (x := lev (a.drop (i + di)) (b.drop (k + dk)) + e) (by omega) (by omega)]
      by_cases hc : lev (a.drop (i + di)) (b.drop (k + dk)) + e = lev (a.drop i) (b.drop k)
      · rw [if_pos hc] at hf
        obtain ⟨rfl, rfl, rfl⟩ : Sx[x] = s0 ∧ di = d1 ∧ dk = d2 := by simpa using hf
        rw [beq_iff_eq.2 hc, cond_true, app_some _ _ (by unfold LIM; simp; omega), Option.bind_some]
      · rw [if_neg hc] at hf
        rw [beq_eq_false_iff_ne.2 hc, cond_false]
        exact ih (x + 1) N (by omega) (by omega) hf
    · rw [g1] at hf
      rw [g2, Option.bind_some]
      simp only [andO_false, Option.bind_some, cond_false]
      exact ih (x + 1) N (by omega) (by omega) hf
theorem al_l1 (a b : Str) (ha : a.length ≤ 60) (hb : b.length ≤ 60) (T : List (List Int)) (hT : ∀ i k, i ≤ a.length → k ≤ b.length → gt T i k = some (lev (a.drop i) (b.drop k))) (kj : List UInt8 → Option Str) :
    ∀ (q N i k : Nat) (acc : Str), i ≤ a.length → k ≤ b.length → a.length - i + (b.length - k) ≤ q → q + 20 < N → acc.length + q ≤ 200 → i_alignment_l1 kj a b T N acc (i : Int) (k : Int) = kj (acc ++ algF q (a.drop i) (b.drop k)) := by
  intro q
  induction q with
  | zero =>
    intro N i k acc hi hk hq hN hacc
    obtain ⟨N, rfl⟩ := pos_fuel (show 0 < N by omega)
    simp only [i_alignment_l1, withK_eq]
    rw [decide_eq_false (by omega : ¬ (i : Int) < (a.length : Int)), decide_eq_false (by omega : ¬ (k : Int) < (b.length : Int))]
    simp [algF]
  | succ q ih =>
    intro N i k acc hi hk hq hN hacc
    obtain ⟨N, rfl⟩ := pos_fuel (show 0 < N by omega)
    simp only [i_alignment_l1, withK_eq]
    rw [orO_some, Option.bind_some]
    by_cases he : i < a.length ∨ k < b.length
    · have : (decide ((i : Int) < (a.length : Int)) || decide ((k : Int) < (b.length : Int))) = true := by
        rw [Bool.or_eq_true]; exact he.imp (fun h => decide_eq_true (by omega)) (fun h => decide_eq_true (by omega))
      rw [this, cond_true]
      have hne : a.drop i ≠ [] ∨ b.drop k ≠ [] := he.imp (fun h e => by have := congrArg List.length e; rw [List.length_drop] at this; simp at this; omega) (fun h e => by have := congrArg List.length e; rw [List.length_drop] at this; simp at this; omega)
      obtain ⟨s, di, dk, hf⟩ := fst1_ex hne
      obtain ⟨_, e, hst, _⟩ := (fst1_spec _ _ _).1 s di dk hf
      have hd := stp_dec hst
      rw [List.length_drop, List.length_drop] at hd
      have e2 := al_l2 a b ha hb T hT i k hi hk acc (by omega) s di dk (fun l16 i18 k19 => i_alignment_l1 kj a b T N l16 i18 k19) 5 0 N (by omega) (by omega) (by rw [List.drop_zero]; exact hf)
      rw [show ((0 : Nat) : Int) = 0 from rfl] at e2
      rw [e2, ih N (i + di) (k + dk) _ (by omega) (by omega) (by omega) (by omega) (by simp; omega)]
      simp only [algF, hf, List.drop_drop, List.append_assoc, List.singleton_append]
    · have h1 : ¬ i < a.length := fun h => he (.inl h)
      have h2 : ¬ k < b.length := fun h => he (.inr h)
      rw [decide_eq_false (by omega : ¬ (i : Int) < (a.length : Int)), decide_eq_false (by omega : ¬ (k : Int) < (b.length : Int)), Bool.or_self, cond_false]
      rw [List.drop_eq_nil_of_le (by omega), List.drop_eq_nil_of_le (by omega)]
      simp [algF, show fst1 [] [] Sx = none from rfl]
theorem al_ok (a b : Str) (ha : a.length ≤ 60) (hb : b.length ≤ 60) (N : Nat) (hN : 400 < N) : i_alignment N a b = some (alg a b) := by
  obtain ⟨T, e, h1, h2⟩ := lf_ok a b ha hb N (by omega)
  unfold i_alignment
  rw [e, Option.bind_some]
  simp only [withK_eq]
  have := al_l1 a b ha hb T h2 (fun l => some l) (a.length + b.length) N 0 0 [] (Nat.zero_le _) (Nat.zero_le _) (by omega) (by omega) (by simp; omega)
  rw [show ((0 : Nat) : Int) = 0 from rfl] at this
  rw [this]
  rfl
/-- steps that lead from one text to another one -/
def Al : Str → Str → Str → Prop
  | a, b, [] => a = [] ∧ b = []
  | a, b, s :: r => s ∈ Sx ∧ ∃ di dk e, stp a b s = some (di, dk, e) ∧ Al (a.drop di) (b.drop dk) r
def er : Str → Int
  | [] => 0
  | s :: r => (if s = 61 then 0 else 1) + er r
theorem stp_e {a b : Str} {s : UInt8} {di dk : Nat} {e : Int} (h : stp a b s = some (di, dk, e)) : e = if s = 61 then 0 else 1 := by
  rcases stp_cases h with ⟨rfl, _, _, rfl, _⟩ | ⟨rfl, _, _, rfl, _⟩ | ⟨rfl, _, _, rfl, _⟩ | ⟨rfl, _, _, rfl, _⟩ | ⟨rfl, _, _, rfl, _⟩ <;> rfl
theorem algF_spec : ∀ (n : Nat) (a b : Str), a.length + b.length ≤ n → Al a b (algF n a b) ∧ er (algF n a b) = lev a b ∧ (algF n a b).length ≤ a.length + b.length
  | 0, a, b, h => by
    have ha : a = [] := List.length_eq_zero_iff.1 (by omega)
    have hb : b = [] := List.length_eq_zero_iff.1 (by omega)
    subst ha hb
    exact ⟨⟨rfl, rfl⟩, lev_nil.symm, Nat.le_refl _⟩
  | n + 1, a, b, h => by
    by_cases he : a ≠ [] ∨ b ≠ []
    · obtain ⟨s, di, dk, hf⟩ := fst1_ex he
      obtain ⟨hs, e, hst, hl⟩ := (fst1_spec _ _ _).1 s di dk hf
      have hd := stp_dec hst
      obtain ⟨g1, g2, g3⟩ := algF_spec n (a.drop di) (b.drop dk) (by rw [List.length_drop, List.length_drop]; omega)
      simp only [algF, hf]
      rw [List.length_drop, List.length_drop] at g3
      refine ⟨⟨hs, di, dk, e, hst, g1⟩, ?_, by simp; omega⟩
      simp only [er]
      rw [g2, hl, stp_e hst]; omega
    · have ha : a = [] := by by_cases ha : a = []; exact ha; exact absurd (.inl ha) he
      have hb : b = [] := by by_cases hb : b = []; exact hb; exact absurd (.inr hb) he
      subst ha hb
      have : algF (n + 1) [] [] = [] := rfl
      rw [this]
      exact ⟨⟨rfl, rfl⟩, lev_nil.symm, Nat.le_refl _⟩
theorem alg_spec (a b : Str) : Al a b (alg a b) ∧ er (alg a b) = lev a b ∧ (alg a b).length ≤ a.length + b.length := algF_spec _ a b (Nat.le_refl _)
/-! Drawn texts. -/
def CH (s : Str) : Prop := ∀ c ∈ s, 32 ≤ c.toNat ∧ c.toNat ≤ 126
theorem CH.app {a b : Str} (ha : CH a) (hb : CH b) : CH (a ++ b) := fun c hc => by
  rcases List.mem_append.1 hc with h | h
  · exact ha c h
  · exact hb c h
theorem CH.set {a : Str} (ha : CH a) (i : Nat) (c : UInt8) (hc : 32 ≤ c.toNat ∧ c.toNat ≤ 126) : CH (a.set i c) := fun x hx => by
  rcases List.mem_or_eq_of_mem_set hx with hx | rfl
  · exact ha x hx
  · exact hc
theorem CH.one {c : UInt8} (hc : 32 ≤ c.toNat ∧ c.toNat ≤ 126) : CH [c] := fun x hx => by rw [List.mem_singleton.1 hx]; exact hc
theorem idx_mem {α : Type} {l : List α} {i : Int} (h0 : 0 ≤ i) (h1 : i < l.length) : ∃ c, idx l i = some c ∧ c ∈ l := ⟨_, idx_int l i h0 h1, List.getElem_mem _⟩
theorem want_l1 {code : List UInt8} (s : L00Src) (hs : s.code = code) (kj : Int → Int → List UInt8 → Option (Str × L00Src)) (Q : Str × L00Src → Prop) : ∀ (n N : Nat) (a sd hi : Int) (l : Str), n < N → 0 ≤ a → a ≤ hi → hi + 2 * n ≤ 1000000 → l.length + n ≤ 11 → CH l →
    (∀ a' sd' l', 0 ≤ a' → a' ≤ hi + 2 * n → l'.length ≤ 11 → CH l' → ∃ r, kj a' sd' l' = some r ∧ Q r) → ∃ r, s_l19Draw_l1 kj s N a sd l (n : Int) = some r ∧ Q r := by
  intro n
  induction n with
  | zero =>
    intro N a sd hi l hN h0 h1 h2 h3 h4 k
    obtain ⟨N, rfl⟩ := pos_fuel hN
    have hz : ¬ ((0 : Nat) : Int) > 0 := by omega
    simp only [s_l19Draw_l1, hz, decide_false, cond_false]
    exact k a sd l h0 (by omega) (by omega) h4
  | succ n ih =>
    intro N a sd hi l hN h0 h1 h2 h3 h4 k
    obtain ⟨N, rfl⟩ := pos_fuel hN
    have hz : ((n + 1 : Nat) : Int) > 0 := by omega
    have e2 : w64 (((n + 1 : Nat) : Int) - 1) = (n : Int) := by rw [w64_id (by omega) (by omega)]; omega
    simp only [s_l19Draw_l1, hz, decide_true, cond_true, e2]
    refine bindE (pickA (code := code) (hi := hi) 6 ⟨hs, h0, h1⟩ (by omega)) fun v g => ?_
    obtain ⟨c, q1, q2⟩ := idx_mem (l := ([97, 101, 104, 110, 116, 32] : Str)) g.2.1 (by have := g.2.2 (by omega); show v.1 < 6; omega)
    rw [q1, Option.bind_some]
    have hc : ∀ x ∈ ([97, 101, 104, 110, 116, 32] : Str), 32 ≤ x.toNat ∧ x.toNat ≤ 126 := by decide
    refine appE (by unfold LIM; simp; omega) ?_
    exact ih N _ _ (hi + 2) _ (by omega) g.1.2.1 g.1.2.2 (by omega) (by simp; omega) (h4.app (.one (hc c q2))) (fun a' sd' l' w1 w2 w3 w4 => k a' sd' l' w1 (by omega) w3 w4)
theorem near_l1 {code : List UInt8} (s : L00Src) (hs : s.code = code) (kj : Int → Int → List UInt8 → Option (Str × L00Src)) (Q : Str × L00Src → Prop) : ∀ (n N : Nat) (a sd hi : Int) (l : Str), n < N → 0 ≤ a → a ≤ hi → hi + 6 * n ≤ 1000000 → l.length + n ≤ 14 → CH l →
    (∀ a' sd' l', l'.length ≤ 14 → CH l' → ∃ r, kj a' sd' l' = some r ∧ Q r) → ∃ r, s_l19Near_l1 kj s N a sd l (n : Int) = some r ∧ Q r := by
  intro n
  induction n with
  | zero =>
    intro N a sd hi l hN h0 h1 h2 h3 h4 k
    obtain ⟨N, rfl⟩ := pos_fuel hN
    have hz : ¬ ((0 : Nat) : Int) > 0 := by omega
    simp only [s_l19Near_l1, hz, decide_false, andO_false, Option.bind_some, cond_false]
    exact k a sd l (by omega) h4
  | succ n ih =>
    intro N a sd hi l hN h0 h1 h2 h3 h4 k
    obtain ⟨N, rfl⟩ := pos_fuel hN
    have hz : ((n + 1 : Nat) : Int) > 0 := by omega
    have e2 : w64 (((n + 1 : Nat) : Int) - 1) = (n : Int) := by rw [w64_id (by omega) (by omega)]; omega
    simp only [s_l19Near_l1, hz, decide_true, andO_true, Option.bind_some, withK_eq, e2]
    refine condE (fun hc => ?_) (fun _ => k a sd l (by omega) h4)
    have hl1 := of_decide_eq_true hc
    have fin : ∀ (a' sd' : Int) (l' : Str), 0 ≤ a' → a' ≤ hi + 6 → l'.length ≤ l.length + 1 → CH l' → ∃ r, s_l19Near_l1 kj s N a' sd' l' (n : Int) = some r ∧ Q r := fun a' sd' l' w1 w2 w3 w4 => ih N a' sd' (hi + 6) l' (by omega) w1 w2 (by omega) (by omega) w4 k
    rw [w64_id (x := (l.length : Int) - 1) (by omega) (by omega)]
    refine bindE (pickA (code := code) (hi := hi) ((l.length : Int) - 1) ⟨hs, h0, h1⟩ (by omega)) fun v1 g1 => ?_
    have c1 := g1.2.2 (by omega)
    obtain ⟨p, hp⟩ := Int.eq_ofNat_of_zero_le g1.2.1
    have hpl : p + 1 < l.length := by omega
    rw [hp]
    refine bindE (pickA (code := code) (hi := hi + 2) 4 ⟨hs, g1.1.2⟩ (by omega)) fun v2 g2 => ?_
    have g22 : v2.2.at_ ≤ hi + 6 := by have := g2.1.2.2; omega
    have hp1 : w64 ((p : Int) + 1) = ((p + 1 : Nat) : Int) := w64_nat p (by omega)
    refine condE (fun _ => ?_) fun _ => condE (fun _ => ?_) fun _ => condE (fun _ => ?_) fun _ => ?_
    · refine bindE (pickA (code := code) (hi := hi + 2 + 2) 4 ⟨hs, g2.1.2⟩ (by omega)) fun v3 g3 => ?_
      obtain ⟨c, q1, q2⟩ := idx_mem (l := ([120, 121, 97, 101] : Str)) g3.2.1 (by have := g3.2.2 (by omega); show v3.1 < 4; omega)
      have hcc : ∀ x ∈ ([120, 121, 97, 101] : Str), 32 ≤ x.toNat ∧ x.toNat ≤ 126 := by decide
      rw [q1, Option.bind_some, idx_lt l p (by omega), Option.bind_some]
      exact fin _ _ _ g3.1.2.1 (by have := g3.1.2.2; omega) (by simp) (h4.set _ _ (hcc c q2))
    · rw [idx_lt l p (by omega), Option.bind_some, hp1, idx_lt l (p + 1) hpl, Option.bind_some, Option.bind_some, Int.toNat_natCast]
      have hi2 : idx (l.set p l[p + 1]) ((p + 1 : Nat) : Int) = some ((l.set p l[p + 1])[p + 1]'(by simpa using hpl)) := idx_lt _ _ (by simpa using hpl)
      rw [hi2, Option.bind_some]
      exact fin _ _ _ g2.1.2.1 g22 (by simp) ((h4.set _ _ (h4 _ (List.getElem_mem _))).set _ _ (h4 _ (List.getElem_mem _)))
    · have s1 : sub l 0 (p : Int) = some (l.take p) := by rw [sub_some l 0 p (by omega) (by omega) (by omega)]; simp
      have s2 : sub l ((p + 1 : Nat) : Int) (l.length : Int) = some (l.drop (p + 1)) := subE l (p + 1) (by omega)
      rw [s1, Option.bind_some, app_some _ _ (by unfold LIM; simp; omega), Option.bind_some, hp1, s2, Option.bind_some, List.nil_append, app_some _ _ (by unfold LIM; simp; omega), Option.bind_some]
      exact fin _ _ _ g2.1.2.1 g22 (by simp; omega) (CH.app (fun c hc => h4 c (List.mem_of_mem_take hc)) (fun c hc => h4 c (List.mem_of_mem_drop hc)))
    · have s1 : sub l 0 (p : Int) = some (l.take p) := by rw [sub_some l 0 p (by omega) (by omega) (by omega)]; simp
      have s2 : sub l (p : Int) (l.length : Int) = some (l.drop p) := subE l p (by omega)
      rw [s1, Option.bind_some, app_some _ _ (by unfold LIM; simp; omega), Option.bind_some, List.nil_append]
      refine bindE (pickA (code := code) (hi := hi + 2 + 2) 2 ⟨hs, g2.1.2⟩ (by omega)) fun v3 g3 => ?_
      obtain ⟨c, q1, q2⟩ := idx_mem (l := ([113, 116] : Str)) g3.2.1 (by have := g3.2.2 (by omega); show v3.1 < 2; omega)
      have hcc : ∀ x ∈ ([113, 116] : Str), 32 ≤ x.toNat ∧ x.toNat ≤ 126 := by decide
      rw [q1, Option.bind_some, app_some _ _ (by unfold LIM; simp; omega), Option.bind_some, s2, Option.bind_some, app_some _ _ (by unfold LIM; simp; omega), Option.bind_some]
      exact fin _ _ _ g3.1.2.1 (by have := g3.1.2.2; omega) (by simp; omega) (CH.app (CH.app (fun c hc => h4 c (List.mem_of_mem_take hc)) (.one (hcc c q2))) (fun c hc => h4 c (List.mem_of_mem_drop hc)))
theorem typed_ok (code : List UInt8) (N : Nat) (hN : 50 < N) : ∃ v, s_A2Typed N code = some v ∧ v.1.length ≤ 11 ∧ CH v.1 ∧ v.2.length ≤ 14 ∧ CH v.2 := by
  unfold s_A2Typed s_l19Draw
  rw [fromA]
  simp only [Option.bind_some, withK_eq]
  have k1 : ∃ r, ((s_l00Src_pick (L00Src.mk code 0 0) 12).bind fun r12 => s_l19Draw_l1 (fun (x6 : Int) (x7 : Int) (l8 : List UInt8) => some (l8, (L00Src.mk code x6 x7))) (L00Src.mk code 0 0) N r12.2.at_ r12.2.seed [] r12.1) = some r ∧ (r.1.length ≤ 11 ∧ CH r.1 ∧ SrcAt code 100 r.2) := by
    refine bindE (pickA (code := code) (hi := 0) 12 ⟨rfl, Int.le_refl _, Int.le_refl _⟩ (by omega)) fun v g => ?_
    have c := g.2.2 (by omega)
    obtain ⟨k, hk⟩ := Int.eq_ofNat_of_zero_le g.2.1
    rw [hk]
    exact want_l1 (code := code) (L00Src.mk code 0 0) rfl _ (fun r => r.1.length ≤ 11 ∧ CH r.1 ∧ SrcAt code 100 r.2) k N _ _ 2 [] (by omega) g.1.2.1 (by have := g.1.2.2; omega) (by omega) (by simp; omega) (fun c hc => by cases hc)
      (fun a' sd' l' w1 w2 w3 w4 => ⟨_, rfl, w3, w4, rfl, w1, by show a' ≤ 100; omega⟩)
  obtain ⟨r, e1, h1, h2, h3⟩ := k1
  rw [e1, Option.bind_some]
  unfold s_l19Near
  rw [app_some _ _ (by unfold LIM; simp; omega), Option.bind_some, List.nil_append]
  simp only [withK_eq]
  have k2 : ∃ q, ((s_l00Src_pick (L00Src.mk code r.2.at_ r.2.seed) 4).bind fun r15 => s_l19Near_l1 (fun (x9 : Int) (x10 : Int) (l11 : List UInt8) => some (l11, (L00Src.mk code x9 x10))) (L00Src.mk code r.2.at_ r.2.seed) N r15.2.at_ r15.2.seed r.1 r15.1) = some q ∧ (q.1.length ≤ 14 ∧ CH q.1) := by
    refine bindE (pickA (code := code) (hi := 100) 4 ⟨rfl, h3.2⟩ (by omega)) fun v g => ?_
    have c := g.2.2 (by omega)
    obtain ⟨k, hk⟩ := Int.eq_ofNat_of_zero_le g.2.1
    rw [hk]
    exact near_l1 (code := code) (L00Src.mk code r.2.at_ r.2.seed) rfl _ (fun r => r.1.length ≤ 14 ∧ CH r.1) k N _ _ 102 r.1 (by omega) g.1.2.1 g.1.2.2 (by omega) (by omega) h2
      (fun a' sd' l' w3 w4 => ⟨_, rfl, w3, w4⟩)
  obtain ⟨q, e2, g1, g2⟩ := k2
  rw [e2, Option.bind_some]
  exact ⟨_, rfl, h1, h2, g1, g2⟩
/-! The typed text from the steps, and the law. -/
theorem withK_n {A B : Type} (k : A) (b : A → B) : withK k b = b k := Eq.trans rfl rfl
theorem steps_l1 (st : Str) (hst : ∀ s ∈ st, s ∈ Sx) (hl : st.length ≤ 120) : ∀ (q x N : Nat), x + q = st.length → q < N → i_areSteps_l1 (some true) st N (x : Int) = some true := by
  intro q
  induction q with
  | zero =>
    intro x N hx hN
    obtain ⟨N, rfl⟩ := pos_fuel hN
    have hz : ¬ (x : Int) < (st.length : Int) := by omega
    simp only [i_areSteps_l1, hz, decide_false, cond_false]
  | succ q ih =>
    intro x N hx hN
    obtain ⟨N, rfl⟩ := pos_fuel hN
    have hz : (x : Int) < (st.length : Int) := by omega
    have hlt : x < st.length := by omega
    have hm := hst _ (List.getElem_mem hlt)
    have key : ∀ c : UInt8, c ∈ Sx → ∀ kj : Bool → Option Bool, (bif (c == (61 : UInt8)) then kj (c == (61 : UInt8)) else bif (c == (120 : UInt8)) then kj (c == (120 : UInt8)) else bif (c == (45 : UInt8)) then kj (c == (45 : UInt8)) else bif (c == (43 : UInt8)) then kj (c == (43 : UInt8)) else kj (c == (126 : UInt8))) = kj true := by
      intro c hc kj
      simp only [Sx, List.mem_cons, List.not_mem_nil, or_false] at hc
      rcases hc with rfl | rfl | rfl | rfl | rfl <;> rfl
    simp only [i_areSteps_l1, hz, decide_true, cond_true, withK_eq]
    rw [idx_lt st x hlt, Option.bind_some]
    refine (key _ hm (fun b => bif b then i_areSteps_l1 (some true) st N (w64 ((x : Int) + 1)) else some false)).trans ?_
    rw [cond_true, w64_nat x (by omega)]
    exact ih (x + 1) N (by omega) (by omega)
theorem steps_ok (st : Str) (hst : ∀ s ∈ st, s ∈ Sx) (hl : st.length ≤ 120) (N : Nat) (hN : 200 < N) : i_areSteps N st = some true := by
  unfold i_areSteps
  simp only [withK_eq]
  rw [decide_eq_true (by omega : (st.length : Int) ≤ 120)]
  exact steps_l1 st hst hl st.length 0 N (by omega) (by omega)
theorem Al.mem : ∀ {st : Str} {a b : Str}, Al a b st → ∀ s ∈ st, s ∈ Sx
  | [], _, _, _, s, hs => by cases hs
  | t :: r, a, b, h, s, hs => by
    obtain ⟨h1, di, dk, e, _, h2⟩ := h
    rcases List.mem_cons.1 hs with rfl | hs
    · exact h1
    · exact Al.mem h2 s hs
theorem step_yes {a b : Str} {s : UInt8} (hs : s ∈ Sx) {di dk : Nat} {e : Int} (h : stp a b s = some (di, dk, e)) : i_stepAt a b s = some ((di : Int), (dk : Int), e, true) := by
  rcases step_ok a b s hs with ⟨d1, d2, e1, g1, g2⟩ | ⟨g1, _⟩
  · rw [h] at g1
    obtain ⟨rfl, rfl, rfl⟩ : di = d1 ∧ dk = d2 ∧ e = e1 := by simpa using g1
    exact g2
  · rw [h] at g1; cases g1
theorem aligns_l1 (a b st : Str) (ha : a.length ≤ 60) (hb : b.length ≤ 60) (hl : st.length ≤ 120) (kj : Int → Int → Option Bool) : ∀ (q x N i k : Nat), x + q = st.length → q < N → i ≤ a.length → k ≤ b.length → Al (a.drop i) (b.drop k) (st.drop x) → i_aligns_l1 kj a b st N (i : Int) (k : Int) (x : Int) = kj (a.length : Int) (b.length : Int) := by
  intro q
  induction q with
  | zero =>
    intro x N i k hx hN hi hk h
    obtain ⟨N, rfl⟩ := pos_fuel hN
    have hz : ¬ (x : Int) < (st.length : Int) := by omega
    simp only [i_aligns_l1, hz, decide_false, cond_false]
    have hS : st.drop x = [] := List.drop_eq_nil_of_le (by omega)
    rw [hS] at h
    have h1 := congrArg List.length h.1
    have h2 := congrArg List.length h.2
    rw [List.length_drop, List.length_nil] at h1 h2
    rw [show i = a.length by omega, show k = b.length by omega]
  | succ q ih =>
    intro x N i k hx hN hi hk h
    obtain ⟨N, rfl⟩ := pos_fuel hN
    have hz : (x : Int) < (st.length : Int) := by omega
    have hlt : x < st.length := by omega
    rw [List.drop_eq_getElem_cons hlt] at h
    obtain ⟨h1, di, dk, e, h2, h3⟩ := h
    have hd := stp_dec h2
    rw [List.length_drop, List.length_drop] at hd
    simp only [i_aligns_l1, hz, decide_true, cond_true]
    rw [subE a i hi, Option.bind_some, subE b k hk, Option.bind_some, idx_lt st x hlt, Option.bind_some, step_yes h1 h2, Option.bind_some]
    simp only [Bool.not_true, cond_false]
    rw [w64_id (by omega) (by omega), w64_id (by omega) (by omega), w64_nat x (by omega)]
    rw [List.drop_drop, List.drop_drop] at h3
    exact ih (x + 1) N (i + di) (k + dk) (by omega) (by omega) (by omega) (by omega) h3
theorem aligns_ok (a b st : Str) (ha : a.length ≤ 60) (hb : b.length ≤ 60) (hl : st.length ≤ 120) (h : Al a b st) (N : Nat) (hN : 200 < N) : i_aligns N a b st = some true := by
  unfold i_aligns
  simp only [withK_eq]
  have := aligns_l1 a b st ha hb hl (fun (i4 : Int) (k5 : Int) => (andO (i4 == (a.length : Int)) (some (k5 == (b.length : Int)))).bind fun t21 => some t21) st.length 0 N 0 0 (by omega) (by omega) (Nat.zero_le _) (Nat.zero_le _) (by simpa using h)
  rw [show ((0 : Nat) : Int) = 0 from rfl] at this
  rw [this]
  simp only [beq_self_eq_true, andO_true, Option.bind_some]
/-- the letters that must be told -/
def exT : Str → Str → Str
  | _, [] => []
  | b, s :: r => if s = 43 ∨ s = 120 then b.take 1 ++ exT (b.drop 1) r else if s = 61 then exT (b.drop 1) r else if s = 126 then exT (b.drop 2) r else exT b r
theorem exT_len : ∀ (st b : Str), (exT b st).length ≤ st.length
  | [], _ => Nat.le_refl _
  | s :: r, b => by
    simp only [exT, List.length_cons]
    split
    · have := exT_len r (b.drop 1); rw [List.length_append, List.length_take]; omega
    · split
      · have := exT_len r (b.drop 1); omega
      · split
        · have := exT_len r (b.drop 2); omega
        · have := exT_len r b; omega
theorem exT_ch : ∀ (st b : Str), CH b → CH (exT b st)
  | [], _, _ => fun c hc => by cases hc
  | s :: r, b, h => by
    have hd : ∀ n, CH (b.drop n) := fun n c hc => h c (List.mem_of_mem_drop hc)
    simp only [exT]
    split
    · exact CH.app (fun c hc => h c (List.mem_of_mem_take hc)) (exT_ch r _ (hd 1))
    · split
      · exact exT_ch r _ (hd 1)
      · split
        · exact exT_ch r _ (hd 2)
        · exact exT_ch r b h
/-- what follows one step -/
theorem Al.step {a b r : Str} {s : UInt8} (h : Al a b (s :: r)) :
    (s = 43 ∧ ∃ y b', b = y :: b' ∧ Al a b' r) ∨ (s = 45 ∧ ∃ x a', a = x :: a' ∧ Al a' b r) ∨ (s = 61 ∧ ∃ x a' b', a = x :: a' ∧ b = x :: b' ∧ Al a' b' r) ∨
    (s = 120 ∧ ∃ x a' y b', a = x :: a' ∧ b = y :: b' ∧ Al a' b' r) ∨ (s = 126 ∧ ∃ x y a' b', a = x :: y :: a' ∧ b = y :: x :: b' ∧ Al a' b' r) := by
  obtain ⟨h1, di, dk, e, h2, h3⟩ := h
  rcases stp_cases h2 with ⟨rfl, rfl, rfl, rfl, y, b', rfl⟩ | ⟨rfl, rfl, rfl, rfl, x, a', rfl⟩ | ⟨rfl, rfl, rfl, rfl, x, a', b', rfl, rfl⟩ | ⟨rfl, rfl, rfl, rfl, x, a', y, b', rfl, rfl, _⟩ | ⟨rfl, rfl, rfl, rfl, x, y, a', b', rfl, rfl, _⟩
  · exact .inl ⟨rfl, y, b', rfl, by simpa using h3⟩
  · exact .inr (.inl ⟨rfl, x, a', rfl, by simpa using h3⟩)
  · exact .inr (.inr (.inl ⟨rfl, x, a', b', rfl, rfl, by simpa using h3⟩))
  · exact .inr (.inr (.inr (.inl ⟨rfl, x, a', y, b', rfl, rfl, by simpa using h3⟩)))
  · exact .inr (.inr (.inr (.inr ⟨rfl, x, y, a', b', rfl, rfl, by simpa using h3⟩)))
theorem idx_drop {s r : Str} {i : Nat} {c : UInt8} (h : s.drop i = c :: r) : idx s (i : Int) = some c ∧ s.drop (i + 1) = r ∧ i < s.length := by
  have hl : i < s.length := by
    have := congrArg List.length h
    rw [List.length_drop] at this
    simp at this; omega
  rw [List.drop_eq_getElem_cons hl] at h
  injection h with h1 h2
  exact ⟨by rw [idx_lt s i hl, h1], h2, hl⟩
section
variable (a st ex : Str) (ha : a.length ≤ 60) (hl : st.length ≤ 120) (hex : ex.length ≤ 60) (kj : List UInt8 → Int → Option (Str × Int)) (x N i u : Nat) (l : Str) (hx : x < st.length) (hll : l.length ≤ 1000)
include ha hl hex hx hll
end
theorem tk1 {b r : Str} {k : Nat} {c : UInt8} (h : b.drop k = c :: r) : b.take (k + 1) = b.take k ++ [c] := by
  obtain ⟨h1, _, h3⟩ := idx_drop h
  rw [idx_lt b k h3] at h1
  rw [List.take_succ_eq_append_getElem h3, Option.some.inj h1]
section
variable (kj : Str → Option Bool) (r10 : Str × Str) (r16 : Str × Int) (x N at_ : Nat) (acc : Str) (hx : x < r16.1.length) (hl : r16.1.length ≤ 60) (hb : r10.2.length ≤ 60) (hac : acc.length ≤ 100)
include hx hl hb hac
end
/-! Numbers of steps. -/
def cnt (c : UInt8) : Str → Nat
  | [] => 0
  | s :: r => (if s = c then 1 else 0) + cnt c r
theorem cnt_le (c : UInt8) : ∀ s : Str, cnt c s ≤ s.length
  | [] => Nat.le_refl _
  | s :: r => by
    have := cnt_le c r
    simp only [cnt, List.length_cons]
    split <;> omega
theorem cb_l1 (s : Str) (c : UInt8) (hs : s.length ≤ 1000) (kj : Int → Option Int) : ∀ (q x N n : Nat), x + q = s.length → q < N → n ≤ x → i_countByte_l1 kj s c N (n : Int) (x : Int) = kj ((n + cnt c (s.drop x) : Nat) : Int) := by
  intro q
  induction q with
  | zero =>
    intro x N n hx hN hn
    obtain ⟨N, rfl⟩ := pos_fuel hN
    rw [i_countByte_l1, decide_eq_false (by omega : ¬ (x : Int) < (s.length : Int)), cond_false, List.drop_eq_nil_of_le (by omega)]
    rfl
  | succ q ih =>
    intro x N n hx hN hn
    obtain ⟨N, rfl⟩ := pos_fuel hN
    have hlt : x < s.length := by omega
    rw [i_countByte_l1, decide_eq_true (by omega : (x : Int) < (s.length : Int)), cond_true, withK_n, idx_lt s x hlt, Option.bind_some, w64_nat n (by omega), w64_nat x (by omega), List.drop_eq_getElem_cons hlt, cnt]
    dsimp only
    by_cases h : s[x] = c
    · rw [beq_iff_eq.2 h, cond_true, if_pos h, ih (x + 1) N (n + 1) (by omega) (by omega) (by omega)]
      congr 2; omega
    · rw [beq_eq_false_iff_ne.2 h, cond_false, if_neg h, ih (x + 1) N n (by omega) (by omega) (by omega)]
      congr 2; omega
theorem cb_ok (s : Str) (c : UInt8) (hs : s.length ≤ 1000) (N : Nat) (hN : 1000 < N) : i_countByte N s c = some (cnt c s : Int) := by
  unfold i_countByte
  rw [withK_n]
  have := cb_l1 s c hs (fun n => some n) s.length 0 N 0 (by omega) (by omega) (Nat.le_refl _)
  rw [show ((0 : Nat) : Int) = 0 from rfl, List.drop_zero, Nat.zero_add] at this
  rw [this]
theorem areSteps_l1 (st : Str) (hst : ∀ s ∈ st, s ∈ Sx) (hl : st.length ≤ 120) (kk : Option Bool) : ∀ (q x N : Nat), x + q = st.length → q < N → i_areSteps_l1 kk st N (x : Int) = kk := by
  intro q
  induction q with
  | zero =>
    intro x N hx hN
    obtain ⟨N, rfl⟩ := pos_fuel hN
    have hz : ¬ (x : Int) < (st.length : Int) := by omega
    rw [i_areSteps_l1, decide_eq_false hz, cond_false]
  | succ q ih =>
    intro x N hx hN
    obtain ⟨N, rfl⟩ := pos_fuel hN
    have hz : (x : Int) < (st.length : Int) := by omega
    have hlt : x < st.length := by omega
    have hm := hst _ (List.getElem_mem hlt)
    have key : ∀ c : UInt8, c ∈ Sx → ∀ kj : Bool → Option Bool, (bif (c == (61 : UInt8)) then kj (c == (61 : UInt8)) else bif (c == (120 : UInt8)) then kj (c == (120 : UInt8)) else bif (c == (45 : UInt8)) then kj (c == (45 : UInt8)) else bif (c == (43 : UInt8)) then kj (c == (43 : UInt8)) else kj (c == (126 : UInt8))) = kj true := by
      intro c hc kj
      simp only [Sx, List.mem_cons, List.not_mem_nil, or_false] at hc
      rcases hc with rfl | rfl | rfl | rfl | rfl <;> rfl
    rw [i_areSteps_l1, decide_eq_true hz, cond_true, idx_lt st x hlt, Option.bind_some, withK_n]
    refine (key _ hm (fun b => bif b then i_areSteps_l1 kk st N (w64 ((x : Int) + 1)) else some false)).trans ?_
    rw [cond_true, w64_nat x (by omega)]
    exact ih (x + 1) N (by omega) (by omega)
theorem ei_ok (st : Str) (hst : ∀ s ∈ st, s ∈ Sx) (hl : st.length ≤ 120) (N : Nat) (hN : 2000 < N) : i_ErrorsIn N st = some ([(cnt 43 st : Int), (cnt 45 st : Int), (cnt 120 st : Int), (cnt 126 st : Int)], 0) := by
  obtain ⟨M, rfl⟩ : ∃ M, N = M + 5 := ⟨N - 5, by omega⟩
  unfold i_ErrorsIn
  rw [steps_ok st hst hl _ (by omega), Option.bind_some, Bool.not_true, cond_false, withK_n]
  have l0 : decide ((0 : Int) < (([43, 45, 120, 126] : List Nat).length : Int)) = true := rfl
  have l1 : decide ((1 : Int) < (([43, 45, 120, 126] : List Nat).length : Int)) = true := rfl
  have l2 : decide ((2 : Int) < (([43, 45, 120, 126] : List Nat).length : Int)) = true := rfl
  have l3 : decide ((3 : Int) < (([43, 45, 120, 126] : List Nat).length : Int)) = true := rfl
  have l4 : decide ((4 : Int) < (([43, 45, 120, 126] : List Nat).length : Int)) = false := rfl
  have i0 : idx ([43, 45, 120, 126] : Str) 0 = some 43 := rfl
  have i1 : idx ([43, 45, 120, 126] : Str) 1 = some 45 := rfl
  have i2 : idx ([43, 45, 120, 126] : Str) 2 = some 120 := rfl
  have i3 : idx ([43, 45, 120, 126] : Str) 3 = some 126 := rfl
  have w0 : w64 ((0 : Int) + 1) = 1 := rfl
  have w1 : w64 ((1 : Int) + 1) = 2 := rfl
  have w2 : w64 ((2 : Int) + 1) = 3 := rfl
  have w3 : w64 ((3 : Int) + 1) = 4 := rfl
  have ap : ∀ (l : List Int) (v : Int), l.length ≤ 5 → app l [v] = some (l ++ [v]) := fun l v h => app_some _ _ (by unfold LIM; simp; omega)
  rw [i_ErrorsIn_l1, l0, cond_true, i0, Option.bind_some, cb_ok st 43 (by omega) _ (by omega), Option.bind_some, ap _ _ (by simp), Option.bind_some, w0]
  rw [i_ErrorsIn_l1, l1, cond_true, i1, Option.bind_some, cb_ok st 45 (by omega) _ (by omega), Option.bind_some, ap _ _ (by simp), Option.bind_some, w1]
  rw [i_ErrorsIn_l1, l2, cond_true, i2, Option.bind_some, cb_ok st 120 (by omega) _ (by omega), Option.bind_some, ap _ _ (by simp), Option.bind_some, w2]
  rw [i_ErrorsIn_l1, l3, cond_true, i3, Option.bind_some, cb_ok st 126 (by omega) _ (by omega), Option.bind_some, ap _ _ (by simp), Option.bind_some, w3]
  rw [i_ErrorsIn_l1, l4, cond_false]
  rfl
theorem al_cnt : ∀ (st a b : Str), Al a b st → a.length = cnt 61 st + cnt 45 st + cnt 120 st + 2 * cnt 126 st
  | [], a, b, h => by rw [h.1]; rfl
  | s :: r, a, b, h => by
    obtain ⟨_, di, dk, e, h1, h2⟩ := h
    have ih := al_cnt r _ _ h2
    have hd := stp_dec h1
    rw [List.length_drop] at ih
    rcases stp_cases h1 with ⟨rfl, rfl, _⟩ | ⟨rfl, rfl, _⟩ | ⟨rfl, rfl, _⟩ | ⟨rfl, rfl, _⟩ | ⟨rfl, rfl, _⟩ <;>
      simp only [cnt] at ih ⊢ <;> (try simp) <;> omega
theorem er_cnt : ∀ (st : Str), (∀ s ∈ st, s ∈ Sx) → er st = ((cnt 43 st + cnt 45 st + cnt 120 st + cnt 126 st : Nat) : Int)
  | [], _ => rfl
  | s :: r, h => by
    have ih := er_cnt r fun x hx => h x (List.mem_cons_of_mem _ hx)
    have hs := h s List.mem_cons_self
    simp only [Sx, List.mem_cons, List.not_mem_nil, or_false] at hs
    rcases hs with rfl | rfl | rfl | rfl | rfl <;>
      simp only [er, cnt] at ih ⊢ <;> (try simp) <;> omega
/-! Tables over all bytes. -/
def S (f : Nat → Nat) : Nat → Nat
  | 0 => 0
  | n + 1 => S f n + f n
def Mt (f : Nat → Nat) : List Bool := (List.range 256).map fun j => decide (0 < f j)
def Ct (f : Nat → Nat) : List Int := (List.range 256).map fun j => ((f j : Nat) : Int)
def up (f : Nat → Nat) (c : Nat) : Nat → Nat := fun j => if j = c then f j + 1 else f j
theorem S_up (f : Nat → Nat) (c : Nat) : ∀ n, S (up f c) n = S f n + (if c < n then 1 else 0)
  | 0 => rfl
  | n + 1 => by
    simp only [S, S_up f c n, up]
    by_cases h : n = c
    · subst h; simp; omega
    · rw [if_neg h]
      by_cases h2 : c < n
      · rw [if_pos h2, if_pos (by omega)]; omega
      · rw [if_neg h2, if_neg (by omega)]; omega
theorem idx_Mt (f : Nat → Nat) (c : Nat) (h : c < 256) : idx (Mt f) (c : Int) = some (decide (0 < f c)) := by
  rw [idx_lt _ c (by unfold Mt; simpa using h)]
  unfold Mt
  simp
theorem idx_Ct (f : Nat → Nat) (c : Nat) (h : c < 256) : idx (Ct f) (c : Int) = some (f c : Int) := by
  rw [idx_lt _ c (by unfold Ct; simpa using h)]
  unfold Ct
  simp
theorem set_Mt (f : Nat → Nat) (c : Nat) : (Mt f).set c true = Mt (up f c) := by
  unfold Mt
  apply List.ext_getElem
  · simp
  · intro i h1 h2
    simp only [List.getElem_set, List.getElem_map, List.getElem_range, up]
    by_cases h : c = i
    · subst h; simp
    · rw [if_neg h, if_neg (fun e => h e.symm)]
theorem set_Ct (f : Nat → Nat) (c : Nat) : (Ct f).set c ((f c + 1 : Nat) : Int) = Ct (up f c) := by
  unfold Ct
  apply List.ext_getElem
  · simp
  · intro i h1 h2
    simp only [List.getElem_set, List.getElem_map, List.getElem_range, up]
    by_cases h : c = i
    · subst h; simp
    · rw [if_neg h, if_neg (fun e => h e.symm)]
section
variable (kj : List Bool → List Int → Option (Str × List Int × Int)) (a st : Str) (x N i : Nat) (f : Nat → Nat) (hx : x < st.length) (hl : st.length ≤ 120) (hf : ∀ j, f j ≤ 1000) (hal : a.length ≤ 60)
include hx hl
end
theorem up_le {f : Nat → Nat} {x : Nat} (h : ∀ j, f j ≤ x) (c : Nat) : ∀ j, up f c j ≤ x + 1 := fun j => by
  have := h j
  unfold up
  split <;> omega
/-! The letters in order. -/
def As (f : Nat → Nat) (x : Nat) : Str := ((List.range x).filter fun j => decide (0 < f j)).map fun j => UInt8.ofNat j
theorem As_succ (f : Nat → Nat) (x : Nat) : As f (x + 1) = As f x ++ (if 0 < f x then [UInt8.ofNat x] else []) := by
  unfold As
  rw [List.range_succ, List.filter_append, List.map_append]
  by_cases h : 0 < f x
  · simp [h]
  · simp [h]
theorem As_len (f : Nat → Nat) : ∀ x, (As f x).length ≤ x
  | 0 => Nat.le_refl _
  | x + 1 => by
    have := As_len f x
    rw [As_succ, List.length_append]
    split <;> simp <;> omega
theorem ofI (x : Nat) (h : x < 256) : UInt8.ofInt (x : Int) = UInt8.ofNat x := by
  rw [UInt8.ofInt]
  have : ((x : Int) % 2 ^ 8).toNat = x := by omega
  rw [this]
def isum : List Int → Int
  | [] => 0
  | x :: r => x + isum r
theorem isum_app : ∀ a b : List Int, isum (a ++ b) = isum a + isum b
  | [], b => by simp [isum]
  | x :: a, b => by simp only [List.cons_append, isum, isum_app a b]; omega
theorem nat8 (x : Nat) (h : x < 256) : (UInt8.ofNat x).toNat = x := by
  rw [UInt8.toNat_ofNat']; omega
theorem As_sum (f : Nat → Nat) : ∀ x, x ≤ 256 → isum ((As f x).map fun c => (f c.toNat : Int)) = ((S f x : Nat) : Int)
  | 0, _ => rfl
  | x + 1, h => by
    rw [As_succ, List.map_append, isum_app, As_sum f x (by omega), S]
    by_cases g : 0 < f x
    · rw [if_pos g]
      simp only [List.map_cons, List.map_nil, isum]
      rw [nat8 x (by omega)]; omega
    · rw [if_neg g]
      simp only [List.map_nil, isum]; omega
theorem As_mem {f : Nat → Nat} {x : Nat} (hx : x ≤ 256) {c : UInt8} (h : c ∈ As f x) : c.toNat < x ∧ 0 < f c.toNat := by
  unfold As at h
  rw [List.mem_map] at h
  obtain ⟨j, h1, rfl⟩ := h
  rw [List.mem_filter, List.mem_range] at h1
  rw [nat8 j (by omega)]
  exact ⟨h1.1, of_decide_eq_true h1.2⟩
theorem As_pw (f : Nat → Nat) : ∀ x, x ≤ 256 → (As f x).Pairwise fun a b => a.toNat < b.toNat
  | 0, _ => List.Pairwise.nil
  | x + 1, h => by
    rw [As_succ, List.pairwise_append]
    refine ⟨As_pw f x (by omega), ?_, fun a ha b hb => ?_⟩
    · split <;> simp
    · split at hb
      · rw [List.mem_singleton] at hb
        rw [hb, nat8 x (by omega)]
        exact (As_mem (by omega) ha).1
      · cases hb
theorem rep_Mt : List.replicate 256 false = Mt fun _ => 0 := by
  unfold Mt
  rw [List.map_const', List.length_range]
  exact congrArg (List.replicate 256) (decide_eq_false (Nat.lt_irrefl 0)).symm
theorem rep_Ct : List.replicate 256 (0 : Int) = Ct fun _ => 0 := by
  unfold Ct
  rw [List.map_const', List.length_range]
  exact congrArg (List.replicate 256) (rfl : (0 : Int) = ((0 : Nat) : Int))
theorem S_zero : ∀ n, S (fun _ => 0) n = 0
  | 0 => rfl
  | n + 1 => by rw [S, S_zero n]
theorem as_l1 (l : List Int) (hl : l.length ≤ 1000) (hb : ∀ v ∈ l, 0 ≤ v ∧ v ≤ 1000) (kj : Int → Option Int) : ∀ (q x N : Nat) (s : Int), x + q = l.length → q < N → 0 ≤ s → s ≤ 1000 * x → w_a2Sum_l1 kj l N s (x : Int) = kj (s + isum (l.drop x)) := by
  intro q
  induction q with
  | zero =>
    intro x N s hx hN h0 h1
    obtain ⟨N, rfl⟩ := pos_fuel hN
    rw [w_a2Sum_l1, decide_eq_false (by omega : ¬ (x : Int) < (l.length : Int)), cond_false, List.drop_eq_nil_of_le (by omega)]
    simp only [isum, Int.add_zero]
  | succ q ih =>
    intro x N s hx hN h0 h1
    obtain ⟨N, rfl⟩ := pos_fuel hN
    have hlt : x < l.length := by omega
    have hv := hb _ (List.getElem_mem hlt)
    rw [w_a2Sum_l1, decide_eq_true (by omega : (x : Int) < (l.length : Int)), cond_true, idx_lt l x hlt, Option.bind_some, w64_nat x (by omega), w64_id (by omega) (by omega), List.drop_eq_getElem_cons hlt, isum, ← Int.add_assoc]
    exact ih (x + 1) N _ (by omega) (by omega) (by omega) (by omega)
theorem as_ok (l : List Int) (hl : l.length ≤ 1000) (hb : ∀ v ∈ l, 0 ≤ v ∧ v ≤ 1000) (N : Nat) (hN : 1000 < N) : w_a2Sum N l = some (isum l) := by
  unfold w_a2Sum
  rw [withK_n]
  have := as_l1 l hl hb (fun s => some s) l.length 0 N 0 (by omega) (by omega) (Int.le_refl _) (by omega)
  rw [show ((0 : Nat) : Int) = 0 from rfl, List.drop_zero, Int.zero_add] at this
  exact this
def pw2 : Nat → Nat
  | 0 => 1
  | n + 1 => pw2 n * 2
theorem pw2_le : ∀ n, n ≤ 5 → 1 ≤ pw2 n ∧ pw2 n ≤ 32 := by decide
end Go.Proofs.Ythpdpfagfkopnaa
