/-
  Plain lemmas on these functions. No conditions but those that each states.
-/
import Derived.Test.YtcegcmoeimjioaaFnMarksP2
namespace Go.Proofs.Ytcegcmoeimjioaa
set_option linter.unusedVariables false
set_option linter.unusedSimpArgs false
/-! The table of the least numbers, and the alignment. -/
theorem withK_n {A B : Type} (k : A) (b : A → B) : withK k b = b k := Eq.trans rfl rfl
theorem idx_drop {s r : Str} {i : Nat} {c : UInt8} (h : s.drop i = c :: r) : idx s (i : Int) = some c ∧ s.drop (i + 1) = r ∧ i < s.length := by
  have hl : i < s.length := by
    have := congrArg List.length h
    rw [List.length_drop] at this
    simp at this; omega
  rw [List.drop_eq_getElem_cons hl] at h
  injection h with h1 h2
  exact ⟨by rw [idx_lt s i hl, h1], h2, hl⟩
theorem step_ok (a b : Str) (s : UInt8) (hs : s ∈ Sx) : (∃ (di dk : Nat) (e : Int), stp a b s = some (di, dk, e) ∧ i_stepAt a b s = some ((di : Int), (dk : Int), e, true)) ∨ (stp a b s = none ∧ ∃ x y z, i_stepAt a b s = some (x, y, z, false)) := by
  have hb : ∀ (x : UInt8) (l : Str), ((x :: l) != ([] : Str)) = true := fun _ _ => rfl
  have hn : (([] : Str) != ([] : Str)) = false := rfl
  simp only [Sx, List.mem_cons, List.not_mem_nil, or_false] at hs
  unfold i_stepAt
  rw [andO_some, Option.bind_some]
  rcases hs with rfl | rfl | rfl | rfl | rfl
  · simp only [show ((43 : UInt8) == 61) = false from rfl, show ((43 : UInt8) == 120) = false from rfl, show ((43 : UInt8) == 45) = false from rfl, show ((43 : UInt8) == 43) = true from rfl, cond_false, cond_true]
    cases b with
    | nil => exact .inr ⟨rfl, _, _, _, rfl⟩
    | cons y b => exact .inl ⟨0, 1, 1, rfl, rfl⟩
  · simp only [show ((45 : UInt8) == 61) = false from rfl, show ((45 : UInt8) == 120) = false from rfl, show ((45 : UInt8) == 45) = true from rfl, cond_false, cond_true]
    cases a with
    | nil => exact .inr ⟨rfl, _, _, _, rfl⟩
    | cons x a => exact .inl ⟨1, 0, 1, rfl, rfl⟩
  · simp only [show ((61 : UInt8) == 61) = true from rfl, cond_true]
    match a, b with
    | [], _ => exact .inr ⟨rfl, _, _, _, rfl⟩
    | x :: a, [] => exact .inr ⟨rfl, _, _, _, rfl⟩
    | x :: a, y :: b =>
      have h1 : idx (x :: a) 0 = some x := rfl
      have h2 : idx (y :: b) 0 = some y := rfl
      rw [hb, hb, h1, h2]
      simp only [Bool.and_self, andO_true, Option.bind_some]
      by_cases hxy : x = y
      · subst hxy
        exact .inl ⟨1, 1, 0, by rw [stp_eq]; simp, by rw [beq_self_eq_true]; rfl⟩
      · exact .inr ⟨by rw [stp_eq]; simp [hxy], _, _, _, by rw [beq_eq_false_iff_ne.2 hxy]⟩
  · simp only [show ((120 : UInt8) == 61) = false from rfl, show ((120 : UInt8) == 120) = true from rfl, cond_false, cond_true]
    match a, b with
    | [], _ => exact .inr ⟨rfl, _, _, _, rfl⟩
    | x :: a, [] => exact .inr ⟨rfl, _, _, _, rfl⟩
    | x :: a, y :: b =>
      have h1 : idx (x :: a) 0 = some x := rfl
      have h2 : idx (y :: b) 0 = some y := rfl
      rw [hb, hb, h1, h2]
      simp only [Bool.and_self, andO_true, Option.bind_some]
      by_cases hxy : x = y
      · subst hxy
        exact .inr ⟨by rw [stp_x]; simp, _, _, _, by rw [bne_self_eq_false]⟩
      · exact .inl ⟨1, 1, 1, by rw [stp_x]; simp [hxy], by rw [bne_iff_ne.2 hxy]; rfl⟩
  · simp only [show ((126 : UInt8) == 61) = false from rfl, show ((126 : UInt8) == 120) = false from rfl, show ((126 : UInt8) == 45) = false from rfl, show ((126 : UInt8) == 43) = false from rfl, show ((126 : UInt8) == 126) = true from rfl, cond_false, cond_true]
    match a, b with
    | [], _ => exact .inr ⟨rfl, _, _, _, rfl⟩
    | [_], _ => exact .inr ⟨rfl, _, _, _, rfl⟩
    | _ :: _ :: a, [] =>
      refine .inr ⟨rfl, 2, 2, 1, ?_⟩
      rw [decide_eq_false (show ¬ (([] : Str).length : Int) > 1 by simp), andO_some, Bool.and_false]; rfl
    | _ :: _ :: a, [_] =>
      refine .inr ⟨rfl, 2, 2, 1, ?_⟩
      rw [decide_eq_false (show ¬ ((List.length [_] : Nat) : Int) > 1 by simp), andO_some, Bool.and_false]; rfl
    | x :: x2 :: a, y :: y2 :: b =>
      have h1 : idx (x :: x2 :: a) 0 = some x := rfl
      have h2 : idx (y :: y2 :: b) 0 = some y := rfl
      have h3 : idx (x :: x2 :: a) 1 = some x2 := rfl
      have h4 : idx (y :: y2 :: b) 1 = some y2 := rfl
      rw [decide_eq_true (show ((x :: x2 :: a).length : Int) > 1 by simp only [List.length_cons]; omega), decide_eq_true (show ((y :: y2 :: b).length : Int) > 1 by simp only [List.length_cons]; omega), h1, h2, h3, h4]
      simp only [andO_true, Option.bind_some, andO_some]
      by_cases hc : x ≠ x2 ∧ x = y2 ∧ x2 = y
      · obtain ⟨g1, rfl, rfl⟩ := hc
        refine .inl ⟨2, 2, 1, by rw [stp_swap]; simp [g1], ?_⟩
        rw [bne_iff_ne.2 g1, beq_self_eq_true, beq_self_eq_true]; rfl
      · refine .inr ⟨by rw [stp_swap]; simp only [hc, if_false], 2, 2, 1, ?_⟩
        have : (x != x2 && x == y2 && x2 == y) = false := by
          rw [Bool.eq_false_iff]
          intro h
          rw [Bool.and_eq_true, Bool.and_eq_true, bne_iff_ne, beq_iff_eq, beq_iff_eq] at h
          exact hc ⟨h.1.1, h.1.2, h.2⟩
        simp only [Bool.and_self, Bool.true_and, this]
theorem subE (a : Str) (i : Nat) (h : i ≤ a.length) : sub a (i : Int) (a.length : Int) = some (a.drop i) := by
  rw [sub_some a i _ (by omega) (by omega) (by omega)]
  have e1 : ((i : Int)).toNat = i := by omega
  have e2 : ((a.length : Int)).toNat = a.length := by omega
  rw [e1, e2, List.take_of_length_le (by rw [List.length_drop]; omega)]
def gt (T : List (List Int)) (i k : Nat) : Option Int := (T[i]?).bind fun r => r[k]?
def Sh (n m : Nat) (T : List (List Int)) : Prop := T.length = n + 1 ∧ ∀ r ∈ T, r.length = m + 1
theorem gt_some {T : List (List Int)} {i k : Nat} {v : Int} (h : gt T i k = some v) : ∃ r, idx T (i : Int) = some r ∧ idx r (k : Int) = some v ∧ T[i]? = some r := by
  unfold gt at h
  cases hr : T[i]? with
  | none => rw [hr] at h; cases h
  | some r => rw [hr] at h; exact ⟨r, by rw [idx_nat, hr], by rw [idx_nat]; exact h, rfl⟩
theorem gt_set {n m : Nat} {T : List (List Int)} (hT : Sh n m T) {i k : Nat} (hi : i ≤ n) (hk : k ≤ m) {r : List Int} (hr : T[i]? = some r) (v : Int) : Sh n m (T.set i (r.set k v)) ∧ gt (T.set i (r.set k v)) i k = some v ∧ ∀ i' k', (i' ≠ i ∨ k' ≠ k) → gt (T.set i (r.set k v)) i' k' = gt T i' k' := by
  have hrl := hT.2 r (List.mem_of_getElem? hr)
  have hil := lt_of_some hr
  refine ⟨⟨by simpa using hT.1, fun x hx => ?_⟩, ?_, fun i' k' h => ?_⟩
  · rcases List.mem_or_eq_of_mem_set hx with hx | rfl
    · exact hT.2 x hx
    · simpa using hrl
  · unfold gt
    rw [List.getElem?_set_self hil]
    show (r.set k v)[k]? = some v
    rw [List.getElem?_set_self (by omega)]
  · unfold gt
    by_cases h1 : i' = i
    · subst h1
      rw [List.getElem?_set_self hil, hr]
      show (r.set k v)[k']? = r[k']?
      rw [List.getElem?_set_ne (fun e => by rcases h with h | h; exact h rfl; exact h e.symm)]
    · rw [List.getElem?_set_ne (fun e => h1 e.symm)]
theorem lf_l1 (b : Str) (hb : b.length ≤ 60) (l3 : List (List Int)) (hl3 : l3.length ≤ 100) (kj : List (List Int) → Option (List (List Int))) (Q : Option (List (List Int)) → Prop) : ∀ (q x N : Nat) (T : List (List Int)), x + q = l3.length → q < N → T.length = l3.length → (∀ j r, j < x → T[j]? = some r → r.length = b.length + 1) →
    (∀ T', T'.length = l3.length → (∀ r ∈ T', r.length = b.length + 1) → Q (kj T')) → Q (i_leastFrom_l1 kj b l3 N T (x : Int)) := by
  intro q
  induction q with
  | zero =>
    intro x N T hx hN hT h k
    obtain ⟨N, rfl⟩ := pos_fuel hN
    have hz : ¬ (x : Int) < (l3.length : Int) := by omega
    simp only [i_leastFrom_l1, hz, decide_false, cond_false]
    refine k T hT fun r hr => ?_
    obtain ⟨j, hj, e⟩ := List.getElem_of_mem hr
    exact h j r (by omega) (by rw [List.getElem?_eq_getElem hj, e])
  | succ q ih =>
    intro x N T hx hN hT h k
    obtain ⟨N, rfl⟩ := pos_fuel hN
    have hz : (x : Int) < (l3.length : Int) := by omega
    have hlt : x < T.length := by omega
    have hm : mk ((b.length + 1 : Nat) : Int) (0 : Int) = some (List.replicate (b.length + 1) 0) := mk_some _ 0 (by unfold LIM; omega)
    simp only [i_leastFrom_l1, hz, decide_true, cond_true]
    rw [w64_nat b.length (by omega), hm, Option.bind_some, idx_lt T x hlt, Option.bind_some, w64_nat x (by omega), Int.toNat_natCast]
    refine ih (x + 1) N _ (by omega) (by omega) (by simpa using hT) (fun j r hj hr => ?_) k
    by_cases hjx : j = x
    · subst hjx
      rw [List.getElem?_set_self hlt] at hr
      obtain rfl := Option.some.inj hr
      simp
    · rw [List.getElem?_set_ne (fun e => hjx e.symm)] at hr
      exact h j r (by omega) hr
/-- what is done, from place k of row i on -/
def Dn (a b : Str) (i k : Nat) (T : List (List Int)) : Prop := ∀ i' k', i' ≤ a.length → k' ≤ b.length → (i < i' ∨ i = i' ∧ k ≤ k') → gt T i' k' = some (lev (a.drop i') (b.drop k'))
theorem lf_l4 (a b : Str) (ha : a.length ≤ 60) (hb : b.length ≤ 60) (i k : Nat) (hi : i ≤ a.length) (hk : k ≤ b.length) (T : List (List Int)) (hT : ∀ di dk : Nat, i + di ≤ a.length → k + dk ≤ b.length → 1 ≤ di + dk → gt T (i + di) (k + dk) = some (lev (a.drop (i + di)) (b.drop (k + dk)))) (kj : Int → Option (List (List Int))) :
    ∀ (q x N : Nat) (best : Int), x + q = 5 → q < N → -1 ≤ best → best ≤ 1000 → i_leastFrom_l4 kj a b (i : Int) T (k : Int) N best (x : Int) = kj ((Sx.drop x).foldl (fb lev (a.drop i) (b.drop k)) best) := by
  intro q
  induction q with
  | zero =>
    intro x N best hx hN h0 h1
    obtain ⟨N, rfl⟩ := pos_fuel hN
    have hz : ¬ (x : Int) < (([43, 45, 61, 120, 126] : List Nat).length : Int) := by show ¬ (x : Int) < 5; omega
    simp only [i_leastFrom_l4, hz, decide_false, cond_false]
    have hS : Sx.drop x = [] := List.drop_eq_nil_of_le (by show 5 ≤ x; omega)
    rw [hS]
    rfl
  | succ q ih =>
    intro x N best hx hN h0 h1
    obtain ⟨N, rfl⟩ := pos_fuel hN
    have hz : (x : Int) < (([43, 45, 61, 120, 126] : List Nat).length : Int) := by show (x : Int) < 5; omega
    have hlt : x < Sx.length := by show x < 5; omega
    have hi5 : idx ([43, 45, 61, 120, 126] : List UInt8) (x : Int) = some Sx[x] := idx_lt Sx x hlt
    simp only [i_leastFrom_l4, hz, decide_true, cond_true, withK_eq]
    rw [hi5, Option.bind_some, subE a i hi, Option.bind_some, subE b k hk, Option.bind_some, w64_nat x (by omega), List.drop_eq_getElem_cons hlt, List.foldl_cons]
    rcases step_ok (a.drop i) (b.drop k) Sx[x] (List.getElem_mem hlt) with ⟨di, dk, e, g1, g2⟩ | ⟨g1, _, _, _, g2⟩
    · have hd := stp_dec g1
      rw [List.length_drop, List.length_drop] at hd
      have hg := hT di dk (by omega) (by omega) hd.2.2.1
      obtain ⟨r, r1, r2, _⟩ := gt_some hg
      have hu := lev_up (a.drop (i + di)) (b.drop (k + dk))
      have hnn := lev_nn (a.drop (i + di)) (b.drop (k + dk))
      rw [List.length_drop, List.length_drop] at hu
      have hw1 : w64 ((i : Int) + (di : Int)) = ((i + di : Nat) : Int) := by rw [w64_id (by omega) (by omega)]; omega
      have hw2 : w64 ((k : Int) + (dk : Int)) = ((k + dk : Nat) : Int) := by rw [w64_id (by omega) (by omega)]; omega
      have hfb : fb lev (a.drop i) (b.drop k) best Sx[x] = if best < 0 ∨ lev (a.drop (i + di)) (b.drop (k + dk)) + e < best then lev (a.drop (i + di)) (b.drop (k + dk)) + e else best := by
        unfold fb; rw [g1]; simp only [List.drop_drop]
      rw [g2, Option.bind_some]
      simp only [andO_true]
      rw [hw1, hw2, r1]
      simp only [Option.bind_some]
      rw [r2]
      simp only [Option.bind_some]
      rw [w64_id (x := lev (a.drop (i + di)) (b.drop (k + dk)) + e) (by omega) (by omega), orO_some, Option.bind_some, Option.bind_some, hfb]
      by_cases hc : best < 0 ∨ lev (a.drop (i + di)) (b.drop (k + dk)) + e < best
      · have : (decide (best < 0) || decide (lev (a.drop (i + di)) (b.drop (k + dk)) + e < best)) = true := by
          rw [Bool.or_eq_true]; exact hc.imp decide_eq_true decide_eq_true
        rw [this, cond_true, if_pos hc]
        exact ih (x + 1) N _ (by omega) (by omega) (by omega) (by omega)
      · have c1 : ¬ best < 0 := fun h => hc (.inl h)
        have c2 : ¬ lev (a.drop (i + di)) (b.drop (k + dk)) + e < best := fun h => hc (.inr h)
        rw [decide_eq_false c1, decide_eq_false c2, Bool.or_self, cond_false, if_neg hc]
        exact ih (x + 1) N _ (by omega) (by omega) h0 h1
    · have hfb : fb lev (a.drop i) (b.drop k) best Sx[x] = best := by unfold fb; rw [g1]
      rw [g2, Option.bind_some]
      simp only [andO_false, Option.bind_some, cond_false]
      rw [hfb]
      exact ih (x + 1) N _ (by omega) (by omega) h0 h1
theorem lf_l3 (a b : Str) (ha : a.length ≤ 60) (hb : b.length ≤ 60) (i : Nat) (hi : i ≤ a.length) (kj : List (List Int) → Option (List (List Int))) (Q : Option (List (List Int)) → Prop) (k0 : ∀ T, Sh a.length b.length T → Dn a b i 0 T → Q (kj T)) : ∀ (j N : Nat) (T : List (List Int)), j ≤ b.length + 1 → j + 20 < N → Sh a.length b.length T → Dn a b i j T → Q (i_leastFrom_l3 kj a b (i : Int) N T ((j : Int) - 1)) := by
  intro j
  induction j with
  | zero =>
    intro N T hj hN hT hD
    obtain ⟨N, rfl⟩ := pos_fuel (show 0 < N by omega)
    have hz : ¬ ((0 : Nat) : Int) - 1 ≥ 0 := by omega
    simp only [i_leastFrom_l3, hz, decide_false, cond_false]
    exact k0 T hT hD
  | succ j ih =>
    intro N T hj hN hT hD
    obtain ⟨N, rfl⟩ := pos_fuel (show 0 < N by omega)
    have e : (((j + 1 : Nat) : Int) - 1) = (j : Int) := by omega
    have hz : (j : Int) ≥ 0 := by omega
    rw [e]
    simp only [i_leastFrom_l3, hz, decide_true, cond_true, withK_eq]
    rw [w64_id (x := (j : Int) - 1) (by omega) (by omega)]
    have e4 := lf_l4 a b ha hb i j hi (by omega) T (fun di dk q1 q2 q3 => hD (i + di) (j + dk) q1 q2 (by omega)) (fun best38 => (idx T (i : Int)).bind fun e78 => (idx e78 (j : Int)).bind fun e82 => i_leastFrom_l3 kj a b (i : Int) N (List.set T (Int.toNat (i : Int)) (List.set e78 (Int.toNat (j : Int)) (imax best38 0))) ((j : Int) - 1)) 5 0 N (-1) (by omega) (by omega) (by omega) (by omega)
    rw [show ((0 : Nat) : Int) = 0 from rfl, List.drop_zero] at e4
    rw [e4]
    have hil : i < T.length := by rw [hT.1]; omega
    have hrl : (T[i]).length = b.length + 1 := hT.2 _ (List.getElem_mem hil)
    rw [idx_lt T i hil, Option.bind_some, idx_lt T[i] j (by omega), Option.bind_some, Int.toNat_natCast, Int.toNat_natCast, ← lev_eq]
    obtain ⟨g1, g2, g3⟩ := gt_set hT hi (show j ≤ b.length by omega) (List.getElem?_eq_getElem hil) (lev (a.drop i) (b.drop j))
    refine ih N _ (by omega) (by omega) g1 fun i' k' q1 q2 q3 => ?_
    by_cases hc : i' = i ∧ k' = j
    · obtain ⟨rfl, rfl⟩ := hc; exact g2
    · rw [g3 i' k' (by
        by_cases h1 : i' = i
        · exact .inr fun h2 => hc ⟨h1, h2⟩
        · exact .inl h1)]
      refine hD i' k' q1 q2 ?_
      rcases q3 with q3 | ⟨rfl, q3⟩
      · exact .inl q3
      · exact .inr ⟨rfl, by
          have : k' ≠ j := fun h2 => hc ⟨rfl, h2⟩
          omega⟩
theorem lf_l2 (a b : Str) (ha : a.length ≤ 60) (hb : b.length ≤ 60) (kj : List (List Int) → Option (List (List Int))) (Q : Option (List (List Int)) → Prop) (k0 : ∀ T, Sh a.length b.length T → (∀ i k, i ≤ a.length → k ≤ b.length → gt T i k = some (lev (a.drop i) (b.drop k))) → Q (kj T)) : ∀ (j N : Nat) (T : List (List Int)), j ≤ a.length + 1 → j + 100 < N → Sh a.length b.length T → (∀ i k, j ≤ i → i ≤ a.length → k ≤ b.length → gt T i k = some (lev (a.drop i) (b.drop k))) → Q (i_leastFrom_l2 kj a b N T ((j : Int) - 1)) := by
  intro j
  induction j with
  | zero =>
    intro N T hj hN hT hD
    obtain ⟨N, rfl⟩ := pos_fuel (show 0 < N by omega)
    have hz : ¬ ((0 : Nat) : Int) - 1 ≥ 0 := by omega
    simp only [i_leastFrom_l2, hz, decide_false, cond_false]
    exact k0 T hT fun i k q1 q2 => hD i k (Nat.zero_le _) q1 q2
  | succ j ih =>
    intro N T hj hN hT hD
    obtain ⟨N, rfl⟩ := pos_fuel (show 0 < N by omega)
    have e : (((j + 1 : Nat) : Int) - 1) = (j : Int) := by omega
    have hz : (j : Int) ≥ 0 := by omega
    rw [e]
    simp only [i_leastFrom_l2, hz, decide_true, cond_true, withK_eq]
    rw [w64_id (x := (j : Int) - 1) (by omega) (by omega), show (b.length : Int) = ((b.length + 1 : Nat) : Int) - 1 by omega]
    refine lf_l3 a b ha hb j (by omega) _ Q (fun T' g1 g2 => ?_) (b.length + 1) N T (Nat.le_refl _) (by omega) hT fun i' k' q1 q2 q3 => hD i' k' (by omega) q1 q2
    refine ih N T' (by omega) (by omega) g1 fun i k q0 q1 q2 => g2 i k q1 q2 ?_
    by_cases h : j = i
    · exact .inr ⟨h, Nat.zero_le _⟩
    · exact .inl (by omega)
theorem lf_ok (a b : Str) (ha : a.length ≤ 60) (hb : b.length ≤ 60) (N : Nat) (hN : 300 < N) : ∃ T, i_leastFrom N a b = some T ∧ Sh a.length b.length T ∧ ∀ i k, i ≤ a.length → k ≤ b.length → gt T i k = some (lev (a.drop i) (b.drop k)) := by
  unfold i_leastFrom
  have hm : mk ((a.length + 1 : Nat) : Int) ([] : List Int) = some (List.replicate (a.length + 1) []) := mk_some _ [] (by unfold LIM; omega)
  rw [w64_nat a.length (by omega), hm, Option.bind_some]
  simp only [withK_eq]
  have := lf_l1 b hb (List.replicate (a.length + 1) []) (by simp; omega) (fun l6 => i_leastFrom_l2 (fun l23 => some l23) a b N l6 (a.length : Int)) (fun r => ∃ T, r = some T ∧ Sh a.length b.length T ∧ ∀ i k, i ≤ a.length → k ≤ b.length → gt T i k = some (lev (a.drop i) (b.drop k))) (a.length + 1) 0 N (List.replicate (a.length + 1) []) (by simp) (by omega) rfl (fun j r hj => by omega) fun T' g1 g2 => by
    rw [show (a.length : Int) = ((a.length + 1 : Nat) : Int) - 1 by omega]
    exact lf_l2 a b ha hb (fun l23 => some l23) (fun r => ∃ T, r = some T ∧ Sh a.length b.length T ∧ ∀ i k, i ≤ a.length → k ≤ b.length → gt T i k = some (lev (a.drop i) (b.drop k))) (fun T h1 h2 => ⟨T, rfl, h1, h2⟩) (a.length + 1) N T' (Nat.le_refl _) (by omega) ⟨by rw [g1]; simp, g2⟩ fun i k q0 q1 q2 => by omega
  exact this
/-- texts that can be typed -/
def TX (s : Str) : Prop := s.length ≤ 60 ∧ ∀ c ∈ s, 32 ≤ c.toNat ∧ c.toNat ≤ 126
theorem tx_l1 (s : Str) (hc : TX s) : ∀ (n i N : Nat), i + n = s.length → n < N → i_isText_l1 (some true) s 32 N (i : Int) = some true := by
  have hl := hc.1
  intro n
  induction n with
  | zero =>
    intro i N hi hN
    obtain ⟨N, rfl⟩ := pos_fuel hN
    have hz : ¬ (i : Int) < (s.length : Int) := by omega
    simp only [i_isText_l1, hz, decide_false, cond_false]
  | succ n ih =>
    intro i N hi hN
    obtain ⟨N, rfl⟩ := pos_fuel hN
    have hz : (i : Int) < (s.length : Int) := by omega
    have hlt : i < s.length := by omega
    have hci := hc.2 _ (List.getElem_mem hlt)
    have d1 : decide (s[i] < (32 : UInt8)) = false := decide_eq_false (by rw [UInt8.lt_iff_toNat_lt]; show ¬ s[i].toNat < 32; omega)
    have d2 : decide (s[i] > (126 : UInt8)) = false := decide_eq_false (by show ¬ (126 : UInt8) < s[i]; rw [UInt8.lt_iff_toNat_lt]; show ¬ 126 < s[i].toNat; omega)
    simp only [i_isText_l1, hz, decide_true, cond_true, idx_lt s i hlt, Option.bind_some, d1, d2, orO_false, cond_false]
    rw [w64_nat i (by omega)]
    exact ih (i + 1) N (by omega) (by omega)
theorem tx_ok (s : Str) (hc : TX s) (N : Nat) (hN : 100 < N) : i_isTyped N s = some true := by
  have hl := hc.1
  unfold i_isTyped i_isText
  rw [decide_eq_false (by omega), cond_false]
  simp only [withK_eq]
  have := tx_l1 s hc s.length 0 N (by omega) (by omega)
  rw [show ((0 : Nat) : Int) = 0 from rfl] at this
  rw [this]; rfl
/-- the alignment -/
def fst1 (a b : Str) : List UInt8 → Option (UInt8 × Nat × Nat)
  | [] => none
  | s :: r => match stp a b s with
    | some (di, dk, e) => if lev (a.drop di) (b.drop dk) + e = lev a b then some (s, di, dk) else fst1 a b r
    | none => fst1 a b r
def algF : Nat → Str → Str → Str
  | 0, _, _ => []
  | n + 1, a, b => match fst1 a b Sx with
    | some (s, di, dk) => s :: algF n (a.drop di) (b.drop dk)
    | none => []
def alg (a b : Str) : Str := algF (a.length + b.length) a b
theorem fst1_spec (a b : Str) : ∀ l : List UInt8, (∀ s di dk, fst1 a b l = some (s, di, dk) → s ∈ l ∧ ∃ e, stp a b s = some (di, dk, e) ∧ lev a b = lev (a.drop di) (b.drop dk) + e) ∧ (fst1 a b l = none → ∀ s ∈ l, ∀ di dk e, stp a b s = some (di, dk, e) → lev a b ≠ lev (a.drop di) (b.drop dk) + e)
  | [] => ⟨fun s di dk h => by simp [fst1] at h, fun _ s hs => by cases hs⟩
  | s :: r => by
    obtain ⟨h1, h2⟩ := fst1_spec a b r
    unfold fst1
    cases hs : stp a b s with
    | none =>
      refine ⟨fun s' di dk h => ?_, fun h s' hs' di dk e hst => ?_⟩
      · obtain ⟨g1, g2⟩ := h1 s' di dk h
        exact ⟨List.mem_cons_of_mem _ g1, g2⟩
      · rcases List.mem_cons.1 hs' with rfl | hs'
        · rw [hs] at hst; cases hst
        · exact h2 h s' hs' di dk e hst
    | some t =>
      obtain ⟨d1, d2, e1⟩ := t
      simp only
      by_cases hc : lev (a.drop d1) (b.drop d2) + e1 = lev a b
      · rw [if_pos hc]
        refine ⟨fun s' di dk h => ?_, fun h => by cases h⟩
        obtain ⟨rfl, rfl, rfl⟩ : s = s' ∧ d1 = di ∧ d2 = dk := by simpa using h
        exact ⟨List.mem_cons_self, e1, hs, hc.symm⟩
      · rw [if_neg hc]
        refine ⟨fun s' di dk h => ?_, fun h s' hs' di dk e hst => ?_⟩
        · obtain ⟨g1, g2⟩ := h1 s' di dk h
          exact ⟨List.mem_cons_of_mem _ g1, g2⟩
        · rcases List.mem_cons.1 hs' with rfl | hs'
          · rw [hs] at hst
            obtain ⟨rfl, rfl, rfl⟩ : d1 = di ∧ d2 = dk ∧ e1 = e := by simpa using hst
            exact fun g => hc g.symm
          · exact h2 h s' hs' di dk e hst
theorem fst1_ex {a b : Str} (h : a ≠ [] ∨ b ≠ []) : ∃ s di dk, fst1 a b Sx = some (s, di, dk) := by
  cases hf : fst1 a b Sx with
  | some t => exact ⟨t.1, t.2.1, t.2.2, rfl⟩
  | none =>
    obtain ⟨s, q1, di, dk, e, q2, q3⟩ := lev_ex h
    exact absurd q3 ((fst1_spec a b Sx).2 hf s q1 di dk e q2)
theorem al_l2 (a b : Str) (ha : a.length ≤ 60) (hb : b.length ≤ 60) (T : List (List Int)) (hT : ∀ i k, i ≤ a.length → k ≤ b.length → gt T i k = some (lev (a.drop i) (b.drop k))) (i k : Nat) (hi : i ≤ a.length) (hk : k ≤ b.length) (acc : Str) (hacc : acc.length ≤ 1000) (s0 : UInt8) (d1 d2 : Nat) (kj : List UInt8 → Int → Int → Option Str) :
    ∀ (q x N : Nat), x + q = 5 → q < N → fst1 (a.drop i) (b.drop k) (Sx.drop x) = some (s0, d1, d2) → i_alignment_l2 kj a b T N acc (i : Int) (k : Int) (x : Int) = kj (acc ++ [s0]) ((i + d1 : Nat) : Int) ((k + d2 : Nat) : Int) := by
  intro q
  induction q with
  | zero =>
    intro x N hx hN hf
    have hS : Sx.drop x = [] := List.drop_eq_nil_of_le (by show 5 ≤ x; omega)
    rw [hS] at hf
    cases hf
  | succ q ih =>
    intro x N hx hN hf
    obtain ⟨N, rfl⟩ := pos_fuel hN
    have hz : (x : Int) < (([43, 45, 61, 120, 126] : List Nat).length : Int) := by show (x : Int) < 5; omega
    have hlt : x < Sx.length := by show x < 5; omega
    have hi5 : idx ([43, 45, 61, 120, 126] : List UInt8) (x : Int) = some Sx[x] := idx_lt Sx x hlt
    rw [List.drop_eq_getElem_cons hlt] at hf
    unfold fst1 at hf
    simp only [i_alignment_l2, hz, decide_true, cond_true]
    rw [hi5, Option.bind_some, subE a i hi, Option.bind_some, subE b k hk, Option.bind_some, w64_nat x (by omega)]
    rcases step_ok (a.drop i) (b.drop k) Sx[x] (List.getElem_mem hlt) with ⟨di, dk, e, g1, g2⟩ | ⟨g1, _, _, _, g2⟩
    · have hd := stp_dec g1
      rw [List.length_drop, List.length_drop] at hd
      obtain ⟨r, r1, r2, _⟩ := gt_some (hT (i + di) (k + dk) (by omega) (by omega))
      obtain ⟨r', r3, r4, _⟩ := gt_some (hT i k hi hk)
      have hu := lev_up (a.drop (i + di)) (b.drop (k + dk))
      have hnn := lev_nn (a.drop (i + di)) (b.drop (k + dk))
      rw [List.length_drop, List.length_drop] at hu
      have hw1 : w64 ((i : Int) + (di : Int)) = ((i + di : Nat) : Int) := by rw [w64_id (by omega) (by omega)]; omega
      have hw2 : w64 ((k : Int) + (dk : Int)) = ((k + dk : Nat) : Int) := by rw [w64_id (by omega) (by omega)]; omega
      rw [g1] at hf
      simp only [List.drop_drop] at hf
      rw [g2, Option.bind_some]
      simp only [andO_true]
      rw [hw1, hw2, r1, r3]
      simp only [Option.bind_some]
      rw [r2, r4]
      simp only [Option.bind_some]
      rw [w64_id (x := lev (a.drop (i + di)) (b.drop (k + dk)) + e) (by omega) (by omega)]
      by_cases hc : lev (a.drop (i + di)) (b.drop (k + dk)) + e = lev (a.drop i) (b.drop k)
      · rw [if_pos hc] at hf
        obtain ⟨rfl, rfl, rfl⟩ : Sx[x] = s0 ∧ di = d1 ∧ dk = d2 := by simpa using hf
        rw [beq_iff_eq.2 hc, cond_true, app_some _ _ (by unfold LIM; simp; omega), Option.bind_some]
      · rw [if_neg hc] at hf
        rw [beq_eq_false_iff_ne.2 hc, cond_false]
        exact ih (x + 1) N (by omega) (by omega) hf
    · rw [g1] at hf
      rw [g2, Option.bind_some]
      simp only [andO_false, Option.bind_some, cond_false]
      exact ih (x + 1) N (by omega) (by omega) hf
theorem al_l1 (a b : Str) (ha : a.length ≤ 60) (hb : b.length ≤ 60) (T : List (List Int)) (hT : ∀ i k, i ≤ a.length → k ≤ b.length → gt T i k = some (lev (a.drop i) (b.drop k))) (kj : List UInt8 → Option Str) :
    ∀ (q N i k : Nat) (acc : Str), i ≤ a.length → k ≤ b.length → a.length - i + (b.length - k) ≤ q → q + 20 < N → acc.length + q ≤ 200 → i_alignment_l1 kj a b T N acc (i : Int) (k : Int) = kj (acc ++ algF q (a.drop i) (b.drop k)) := by
  intro q
  induction q with
  | zero =>
    intro N i k acc hi hk hq hN hacc
    obtain ⟨N, rfl⟩ := pos_fuel (show 0 < N by omega)
    simp only [i_alignment_l1, withK_eq]
    rw [decide_eq_false (by omega : ¬ (i : Int) < (a.length : Int)), decide_eq_false (by omega : ¬ (k : Int) < (b.length : Int))]
    simp [algF]
  | succ q ih =>
    intro N i k acc hi hk hq hN hacc
    obtain ⟨N, rfl⟩ := pos_fuel (show 0 < N by omega)
    simp only [i_alignment_l1, withK_eq]
    rw [orO_some, Option.bind_some]
    by_cases he : i < a.length ∨ k < b.length
    · have : (decide ((i : Int) < (a.length : Int)) || decide ((k : Int) < (b.length : Int))) = true := by
        rw [Bool.or_eq_true]; exact he.imp (fun h => decide_eq_true (by omega)) (fun h => decide_eq_true (by omega))
      rw [this, cond_true]
      have hne : a.drop i ≠ [] ∨ b.drop k ≠ [] := he.imp (fun h e => by have := congrArg List.length e; rw [List.length_drop] at this; simp at this; omega) (fun h e => by have := congrArg List.length e; rw [List.length_drop] at this; simp at this; omega)
      obtain ⟨s, di, dk, hf⟩ := fst1_ex hne
      obtain ⟨_, e, hst, _⟩ := (fst1_spec _ _ _).1 s di dk hf
      have hd := stp_dec hst
      rw [List.length_drop, List.length_drop] at hd
      have e2 := al_l2 a b ha hb T hT i k hi hk acc (by omega) s di dk (fun l16 i18 k19 => i_alignment_l1 kj a b T N l16 i18 k19) 5 0 N (by omega) (by omega) (by rw [List.drop_zero]; exact hf)
      rw [show ((0 : Nat) : Int) = 0 from rfl] at e2
      rw [e2, ih N (i + di) (k + dk) _ (by omega) (by omega) (by omega) (by omega) (by simp; omega)]
      simp only [algF, hf, List.drop_drop, List.append_assoc, List.singleton_append]
    · have h1 : ¬ i < a.length := fun h => he (.inl h)
      have h2 : ¬ k < b.length := fun h => he (.inr h)
      rw [decide_eq_false (by omega : ¬ (i : Int) < (a.length : Int)), decide_eq_false (by omega : ¬ (k : Int) < (b.length : Int)), Bool.or_self, cond_false]
      rw [List.drop_eq_nil_of_le (by omega), List.drop_eq_nil_of_le (by omega)]
      simp [algF, show fst1 [] [] Sx = none from rfl]
theorem al_ok (a b : Str) (ha : a.length ≤ 60) (hb : b.length ≤ 60) (N : Nat) (hN : 400 < N) : i_alignment N a b = some (alg a b) := by
  obtain ⟨T, e, h1, h2⟩ := lf_ok a b ha hb N (by omega)
  unfold i_alignment
  rw [e, Option.bind_some]
  simp only [withK_eq]
  have := al_l1 a b ha hb T h2 (fun l => some l) (a.length + b.length) N 0 0 [] (Nat.zero_le _) (Nat.zero_le _) (by omega) (by omega) (by simp; omega)
  rw [show ((0 : Nat) : Int) = 0 from rfl] at this
  rw [this]
  rfl
/-- steps that lead from one text to another one -/
def Al : Str → Str → Str → Prop
  | a, b, [] => a = [] ∧ b = []
  | a, b, s :: r => s ∈ Sx ∧ ∃ di dk e, stp a b s = some (di, dk, e) ∧ Al (a.drop di) (b.drop dk) r
def er : Str → Int
  | [] => 0
  | s :: r => (if s = 61 then 0 else 1) + er r
theorem stp_e {a b : Str} {s : UInt8} {di dk : Nat} {e : Int} (h : stp a b s = some (di, dk, e)) : e = if s = 61 then 0 else 1 := by
  rcases stp_cases h with ⟨rfl, _, _, rfl, _⟩ | ⟨rfl, _, _, rfl, _⟩ | ⟨rfl, _, _, rfl, _⟩ | ⟨rfl, _, _, rfl, _⟩ | ⟨rfl, _, _, rfl, _⟩ <;> rfl
theorem algF_spec : ∀ (n : Nat) (a b : Str), a.length + b.length ≤ n → Al a b (algF n a b) ∧ er (algF n a b) = lev a b ∧ (algF n a b).length ≤ a.length + b.length
  | 0, a, b, h => by
    have ha : a = [] := List.length_eq_zero_iff.1 (by omega)
    have hb : b = [] := List.length_eq_zero_iff.1 (by omega)
    subst ha hb
    exact ⟨⟨rfl, rfl⟩, lev_nil.symm, Nat.le_refl _⟩
  | n + 1, a, b, h => by
    by_cases he : a ≠ [] ∨ b ≠ []
    · obtain ⟨s, di, dk, hf⟩ := fst1_ex he
      obtain ⟨hs, e, hst, hl⟩ := (fst1_spec _ _ _).1 s di dk hf
      have hd := stp_dec hst
      obtain ⟨g1, g2, g3⟩ := algF_spec n (a.drop di) (b.drop dk) (by rw [List.length_drop, List.length_drop]; omega)
      simp only [algF, hf]
      rw [List.length_drop, List.length_drop] at g3
      refine ⟨⟨hs, di, dk, e, hst, g1⟩, ?_, by simp; omega⟩
      simp only [er]
      rw [g2, hl, stp_e hst]; omega
    · have ha : a = [] := by by_cases ha : a = []; exact ha; exact absurd (.inl ha) he
      have hb : b = [] := by by_cases hb : b = []; exact hb; exact absurd (.inr hb) he
      subst ha hb
      have : algF (n + 1) [] [] = [] := rfl
      rw [this]
      exact ⟨⟨rfl, rfl⟩, lev_nil.symm, Nat.le_refl _⟩
theorem alg_spec (a b : Str) : Al a b (alg a b) ∧ er (alg a b) = lev a b ∧ (alg a b).length ≤ a.length + b.length := algF_spec _ a b (Nat.le_refl _)
end Go.Proofs.Ytcegcmoeimjioaa
