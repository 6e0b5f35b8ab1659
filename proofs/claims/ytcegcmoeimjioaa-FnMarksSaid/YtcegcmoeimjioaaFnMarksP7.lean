/-
  Plain lemmas on these functions. No conditions but those that each states.
-/
import Derived.Test.YtcegcmoeimjioaaFnMarksP6
namespace Go.Proofs.Ytcegcmoeimjioaa
set_option linter.unusedVariables false
set_option linter.unusedSimpArgs false
/-! The table and the alignment of the other side are the same. -/
theorem withK_use {A R : Type} {k : A → R} {b : (A → R) → R} (Q : R → Prop) (P : A → Prop) (h1 : ∀ kj : A → R, (∀ x, P x → Q (kj x)) → Q (b kj)) (h2 : ∀ x, P x → Q (k x)) : Q (withK k b) := h1 k h2
theorem min_ok (a b : Int) : s_l00Min a b = some (if a < b then a else b) := by
  unfold s_l00Min
  by_cases h : a < b
  · rw [decide_eq_true h, if_pos h]; rfl
  · rw [decide_eq_false h, if_neg h]; rfl
theorem isS {α : Type} {o : Option α} (h : o.isSome = true) : ∃ v, o = some v := by
  cases o with
  | none => cases h
  | some v => exact ⟨v, rfl⟩
theorem dr_cases (s : Str) (j : Nat) (hj : j ≤ s.length) : (s.drop j = [] ∧ j = s.length) ∨ ∃ c r, s.drop j = c :: r ∧ idx s (j : Int) = some c ∧ s.drop (j + 1) = r ∧ j < s.length := by
  cases h : s.drop j with
  | nil =>
    have := congrArg List.length h
    rw [List.length_drop, List.length_nil] at this
    exact .inl ⟨rfl, by omega⟩
  | cons c r => exact .inr ⟨c, r, rfl, idx_drop h⟩
section
variable {β : Type} (a b : Str) (i k : Nat) (hi : i ≤ a.length) (hk : k ≤ b.length)
include hi hk
theorem c_eq (F : Bool → Option β) : ((andO (decide ((i : Int) < (a.length : Int))) (some (decide ((k : Int) < (b.length : Int))))).bind fun t37 => (andO t37 ((idx a (i : Int)).bind fun c43 => (idx b (k : Int)).bind fun c45 => some (c43 == c45))).bind fun t40 => F t40) = F (stp (a.drop i) (b.drop k) 61).isSome := by
  rcases dr_cases a i hi with ⟨e1, e2⟩ | ⟨c, r, e1, e2, _, e3⟩
  · rw [e1, decide_eq_false (by omega : ¬ (i : Int) < (a.length : Int))]; rfl
  · rcases dr_cases b k hk with ⟨f1, f2⟩ | ⟨d, q, f1, f2, _, f3⟩
    · rw [e1, f1, decide_eq_false (by omega : ¬ (k : Int) < (b.length : Int)), andO_some, Bool.and_false]; rfl
    · rw [e1, f1, decide_eq_true (by omega : (i : Int) < (a.length : Int)), decide_eq_true (by omega : (k : Int) < (b.length : Int)), andO_some, Bool.and_true, Option.bind_some, andO_true, e2, Option.bind_some, f2, Option.bind_some, Option.bind_some, stp_eq]
      by_cases h : c = d
      · subst h; simp
      · rw [beq_eq_false_iff_ne.2 h]; simp [h]
theorem c_ne (F : Bool → Option β) : ((andO (decide ((i : Int) < (a.length : Int))) (some (decide ((k : Int) < (b.length : Int))))).bind fun t37 => (andO t37 ((idx a (i : Int)).bind fun c43 => (idx b (k : Int)).bind fun c45 => some (c43 != c45))).bind fun t40 => F t40) = F (stp (a.drop i) (b.drop k) 120).isSome := by
  rcases dr_cases a i hi with ⟨e1, e2⟩ | ⟨c, r, e1, e2, _, e3⟩
  · rw [e1, decide_eq_false (by omega : ¬ (i : Int) < (a.length : Int))]; rfl
  · rcases dr_cases b k hk with ⟨f1, f2⟩ | ⟨d, q, f1, f2, _, f3⟩
    · rw [e1, f1, decide_eq_false (by omega : ¬ (k : Int) < (b.length : Int)), andO_some, Bool.and_false]; rfl
    · rw [e1, f1, decide_eq_true (by omega : (i : Int) < (a.length : Int)), decide_eq_true (by omega : (k : Int) < (b.length : Int)), andO_some, Bool.and_true, Option.bind_some, andO_true, e2, Option.bind_some, f2, Option.bind_some, Option.bind_some, stp_x]
      by_cases h : c = d
      · subst h; simp
      · rw [bne_iff_ne.2 h]; simp [h]
theorem c_minus : decide ((i : Int) < (a.length : Int)) = (stp (a.drop i) (b.drop k) 45).isSome := by
  have _ := hk
  rcases dr_cases a i hi with ⟨e1, e2⟩ | ⟨c, r, e1, e2, _, e3⟩
  · rw [e1, decide_eq_false (by omega : ¬ (i : Int) < (a.length : Int))]; rfl
  · rw [e1, decide_eq_true (by omega : (i : Int) < (a.length : Int))]; rfl
theorem c_plus : decide ((k : Int) < (b.length : Int)) = (stp (a.drop i) (b.drop k) 43).isSome := by
  have _ := hi
  rcases dr_cases b k hk with ⟨e1, e2⟩ | ⟨c, r, e1, e2, _, e3⟩
  · rw [e1, decide_eq_false (by omega : ¬ (k : Int) < (b.length : Int))]; rfl
  · rw [e1, decide_eq_true (by omega : (k : Int) < (b.length : Int))]; rfl
end
theorem c_swap (a b : Str) : s_l19Swap a b = some (stp a b 126).isSome := by
  unfold s_l19Swap
  match a, b with
  | [], _ => rfl
  | [_], _ => rfl
  | x :: x2 :: a, [] =>
    rw [decide_eq_false (show ¬ (([] : Str).length : Int) ≥ 2 by simp), andO_some, Bool.and_false]; rfl
  | x :: x2 :: a, [_] =>
    rw [decide_eq_false (show ¬ ((List.length [_] : Nat) : Int) ≥ 2 by simp), andO_some, Bool.and_false]; rfl
  | x :: x2 :: a, y :: y2 :: b =>
    have h1 : idx (x :: x2 :: a) 0 = some x := rfl
    have h2 : idx (y :: y2 :: b) 0 = some y := rfl
    have h3 : idx (x :: x2 :: a) 1 = some x2 := rfl
    have h4 : idx (y :: y2 :: b) 1 = some y2 := rfl
    rw [decide_eq_true (show ((x :: x2 :: a).length : Int) ≥ 2 by simp only [List.length_cons]; omega), decide_eq_true (show ((y :: y2 :: b).length : Int) ≥ 2 by simp only [List.length_cons]; omega), h1, h2, h3, h4]
    simp only [andO_true, Option.bind_some, andO_some, stp_swap]
    by_cases hc : x ≠ x2 ∧ x = y2 ∧ x2 = y
    · rw [if_pos hc]
      obtain ⟨g1, rfl, rfl⟩ := hc
      rw [bne_iff_ne.2 g1, beq_self_eq_true, beq_self_eq_true]; rfl
    · rw [if_neg hc]
      have : (x != x2 && x == y2 && x2 == y) = false := by
        rw [Bool.eq_false_iff]
        intro h
        rw [Bool.and_eq_true, Bool.and_eq_true, bne_iff_ne, beq_iff_eq, beq_iff_eq] at h
        exact hc ⟨h.1.1, h.1.2, h.2⟩
      simp only [Bool.and_self, Bool.true_and, this]; rfl
/-- the least of some steps -/
def PP (A B : Str) (S : List UInt8) (best : Int) : Prop := lev A B ≤ best ∧ best ≤ 200 ∧ (A = [] → B = [] → best ≤ 0) ∧ ∀ s ∈ S, ∀ di dk e, stp A B s = some (di, dk, e) → best ≤ lev (A.drop di) (B.drop dk) + e
theorem PP.no {A B : Str} {S : List UInt8} {best : Int} (h : PP A B S best) {s : UInt8} (hn : (stp A B s).isSome = false) : PP A B (s :: S) best :=
  ⟨h.1, h.2.1, h.2.2.1, fun t ht di dk e hs => by
    rcases List.mem_cons.1 ht with rfl | ht
    · rw [hs] at hn; cases hn
    · exact h.2.2.2 t ht di dk e hs⟩
theorem PP.yes {A B : Str} {S : List UInt8} {best : Int} (h : PP A B S best) {s : UInt8} (hm : s ∈ Sx) {di dk : Nat} {e : Int} (hs : stp A B s = some (di, dk, e)) : PP A B (s :: S) (if best < lev (A.drop di) (B.drop dk) + e then best else lev (A.drop di) (B.drop dk) + e) := by
  obtain ⟨h1, h2, h3, h4⟩ := h
  have hl := lev_le hm hs
  refine ⟨by split <;> omega, by split <;> omega, fun g1 g2 => by have := h3 g1 g2; split <;> omega, fun t ht di' dk' e' hs' => ?_⟩
  rcases List.mem_cons.1 ht with rfl | ht
  · rw [hs] at hs'
    obtain ⟨rfl, rfl, rfl⟩ : di = di' ∧ dk = dk' ∧ e = e' := by simpa using hs'
    split <;> omega
  · have := h4 t ht di' dk' e' hs'
    split <;> omega
theorem PP.all {A B : Str} {S : List UInt8} {best : Int} (h : PP A B S best) (hS : ∀ s ∈ Sx, s ∈ S) : best = lev A B := by
  obtain ⟨h1, h2, h3, h4⟩ := h
  by_cases he : A ≠ [] ∨ B ≠ []
  · obtain ⟨s, q1, di, dk, e, q2, q3⟩ := lev_ex he
    have := h4 s (hS s q1) di dk e q2
    omega
  · have ha : A = [] := by by_cases ha : A = []; exact ha; exact absurd (.inl ha) he
    have hb : B = [] := by by_cases hb : B = []; exact hb; exact absurd (.inr hb) he
    have := h3 ha hb
    have := lev_nn A B
    omega
theorem stp61 {A B : Str} (h : (stp A B 61).isSome = true) : stp A B 61 = some (1, 1, 0) := by
  obtain ⟨⟨di, dk, e⟩, hv⟩ := isS h
  rcases stp_cases hv with ⟨g, _⟩ | ⟨g, _⟩ | ⟨_, rfl, rfl, rfl, _⟩ | ⟨g, _⟩ | ⟨g, _⟩
  · exact absurd g (by decide)
  · exact absurd g (by decide)
  · exact hv
  · exact absurd g (by decide)
  · exact absurd g (by decide)
theorem stp120 {A B : Str} (h : (stp A B 120).isSome = true) : stp A B 120 = some (1, 1, 1) := by
  obtain ⟨⟨di, dk, e⟩, hv⟩ := isS h
  rcases stp_cases hv with ⟨g, _⟩ | ⟨g, _⟩ | ⟨g, _⟩ | ⟨_, rfl, rfl, rfl, _⟩ | ⟨g, _⟩
  · exact absurd g (by decide)
  · exact absurd g (by decide)
  · exact absurd g (by decide)
  · exact hv
  · exact absurd g (by decide)
theorem stp126 {A B : Str} (h : (stp A B 126).isSome = true) : stp A B 126 = some (2, 2, 1) := by
  obtain ⟨⟨di, dk, e⟩, hv⟩ := isS h
  rcases stp_cases hv with ⟨g, _⟩ | ⟨g, _⟩ | ⟨g, _⟩ | ⟨g, _⟩ | ⟨_, rfl, rfl, rfl, _⟩
  · exact absurd g (by decide)
  · exact absurd g (by decide)
  · exact absurd g (by decide)
  · exact absurd g (by decide)
  · exact hv
theorem stp45 {A B : Str} (h : (stp A B 45).isSome = true) : stp A B 45 = some (1, 0, 1) := by
  obtain ⟨⟨di, dk, e⟩, hv⟩ := isS h
  rcases stp_cases hv with ⟨g, _⟩ | ⟨_, rfl, rfl, rfl, _⟩ | ⟨g, _⟩ | ⟨g, _⟩ | ⟨g, _⟩
  · exact absurd g (by decide)
  · exact hv
  · exact absurd g (by decide)
  · exact absurd g (by decide)
  · exact absurd g (by decide)
theorem stp43 {A B : Str} (h : (stp A B 43).isSome = true) : stp A B 43 = some (0, 1, 1) := by
  obtain ⟨⟨di, dk, e⟩, hv⟩ := isS h
  rcases stp_cases hv with ⟨_, rfl, rfl, rfl, _⟩ | ⟨g, _⟩ | ⟨g, _⟩ | ⟨g, _⟩ | ⟨g, _⟩
  · exact hv
  · exact absurd g (by decide)
  · exact absurd g (by decide)
  · exact absurd g (by decide)
  · exact absurd g (by decide)
def Row (a b : Str) (i : Nat) (r : List Int) : Prop := r.length = b.length + 1 ∧ ∀ k, k ≤ b.length → idx r (k : Int) = some (lev (a.drop i) (b.drop k))
theorem lev_b (a b : Str) (ha : a.length ≤ 60) (hb : b.length ≤ 60) (i k : Nat) : 0 ≤ lev (a.drop i) (b.drop k) ∧ lev (a.drop i) (b.drop k) ≤ 120 := by
  have h := lev_up (a.drop i) (b.drop k)
  rw [List.length_drop, List.length_drop] at h
  exact ⟨lev_nn _ _, by omega⟩
theorem sc_l2 (a b : Str) (ha : a.length ≤ 60) (hb : b.length ≤ 60) (i : Nat) (hi : i ≤ a.length) (T : List (List Int)) (hT : ∀ i', i < i' → i' ≤ a.length → ∃ r, idx T (i' : Int) = some r ∧ Row a b i' r) (kj : List Int → Option (List (List Int))) (Q : Option (List (List Int)) → Prop) (k0 : ∀ r, Row a b i r → Q (kj r)) :
    ∀ (j N : Nat) (l : List Int), j ≤ b.length + 1 → j < N → l.length = b.length + 1 → (∀ k, j ≤ k → k ≤ b.length → idx l (k : Int) = some (lev (a.drop i) (b.drop k))) → Q (s_l19Costs_l2 kj a b T (i : Int) N l ((j : Int) - 1)) := by
  intro j
  induction j with
  | zero =>
    intro N l hj hN hl h
    obtain ⟨N, rfl⟩ := pos_fuel hN
    have hz : ¬ ((0 : Nat) : Int) - 1 ≥ 0 := by omega
    rw [s_l19Costs_l2, decide_eq_false hz, cond_false]
    exact k0 l ⟨hl, fun k hk => h k (Nat.zero_le _) hk⟩
  | succ k ih =>
    intro N l hj hN hl h
    obtain ⟨N, rfl⟩ := pos_fuel hN
    have e : (((k + 1 : Nat) : Int) - 1) = (k : Int) := by omega
    have hk : k ≤ b.length := by omega
    have hw : ∀ v : Int, 0 ≤ v → v ≤ 120 → w64 (v + 1) = v + 1 := fun v _ _ => w64_id (by omega) (by omega)
    rw [e, s_l19Costs_l2, decide_eq_true (by omega : (k : Int) ≥ 0), cond_true]
    have w1 : w64 ((i : Int) + 1) = ((i + 1 : Nat) : Int) := w64_nat i (by omega)
    have w2 : w64 ((k : Int) + 1) = ((k + 1 : Nat) : Int) := w64_nat k (by omega)
    have w3 : w64 ((i : Int) + 2) = ((i + 2 : Nat) : Int) := by rw [w64_id (by omega) (by omega)]; omega
    have w4 : w64 ((k : Int) + 2) = ((k + 2 : Nat) : Int) := by rw [w64_id (by omega) (by omega)]; omega
    rw [w1, w2, w3, w4]
    refine withK_use Q (fun best => PP (a.drop i) (b.drop k) [] best) (fun kj1 hk1 => ?_) fun m0 p0 => ?_
    · rw [orO_some, Option.bind_some]
      by_cases he : i < a.length ∨ k < b.length
      · have : (decide ((i : Int) < (a.length : Int)) || decide ((k : Int) < (b.length : Int))) = true := by
          rw [Bool.or_eq_true]; exact he.imp (fun h => decide_eq_true (by omega)) (fun h => decide_eq_true (by omega))
        rw [this, cond_true, w64_id (by omega) (by omega)]
        have hu := lev_up (a.drop i) (b.drop k)
        rw [List.length_drop, List.length_drop] at hu
        refine hk1 _ ⟨by omega, by omega, fun g1 g2 => ?_, fun s hs => by cases hs⟩
        have g1 := congrArg List.length g1
        have g2 := congrArg List.length g2
        rw [List.length_drop, List.length_nil] at g1 g2
        omega
      · have h1 : ¬ i < a.length := fun h => he (.inl h)
        have h2 : ¬ k < b.length := fun h => he (.inr h)
        rw [decide_eq_false (by omega : ¬ (i : Int) < (a.length : Int)), decide_eq_false (by omega : ¬ (k : Int) < (b.length : Int)), Bool.or_self, cond_false]
        refine hk1 _ ?_
        rw [List.drop_eq_nil_of_le (by omega), List.drop_eq_nil_of_le (by omega)]
        exact ⟨by rw [lev_nil]; omega, by omega, fun _ _ => by omega, fun s hs => by cases hs⟩
    refine withK_use Q (fun best => PP (a.drop i) (b.drop k) [61] best) (fun kj1 hk1 => ?_) fun m1 p1 => ?_
    · rw [c_eq a b i k hi hk]
      cases hs : (stp (a.drop i) (b.drop k) 61).isSome with
      | false => rw [cond_false]; exact hk1 _ (p0.no hs)
      | true =>
        have h1 := stp61 hs
        have hd := stp_dec h1
        rw [List.length_drop, List.length_drop] at hd
        obtain ⟨r, r1, r2⟩ := hT (i + 1) (by omega) (by omega)
        have r3 := r2.2 (k + 1) (by omega)
        rw [cond_true, r1, Option.bind_some, r3, Option.bind_some, min_ok, Option.bind_some]
        have p := p0.yes in61 h1
        rw [List.drop_drop, List.drop_drop, Int.add_zero] at p
        exact hk1 _ p
    refine withK_use Q (fun best => PP (a.drop i) (b.drop k) [120, 61] best) (fun kj1 hk1 => ?_) fun m2 p2 => ?_
    · rw [c_ne a b i k hi hk]
      cases hs : (stp (a.drop i) (b.drop k) 120).isSome with
      | false => rw [cond_false]; exact hk1 _ (p1.no hs)
      | true =>
        have h1 := stp120 hs
        have hd := stp_dec h1
        rw [List.length_drop, List.length_drop] at hd
        obtain ⟨r, r1, r2⟩ := hT (i + 1) (by omega) (by omega)
        have r3 := r2.2 (k + 1) (by omega)
        have hb2 := lev_b a b ha hb (i + 1) (k + 1)
        rw [cond_true, r1, Option.bind_some, r3, Option.bind_some, hw _ hb2.1 hb2.2, min_ok, Option.bind_some]
        have p := p1.yes in120 h1
        rw [List.drop_drop, List.drop_drop] at p
        exact hk1 _ p
    refine withK_use Q (fun best => PP (a.drop i) (b.drop k) [45, 120, 61] best) (fun kj1 hk1 => ?_) fun m3 p3 => ?_
    · rw [c_minus a b i k hi hk]
      cases hs : (stp (a.drop i) (b.drop k) 45).isSome with
      | false => rw [cond_false]; exact hk1 _ (p2.no hs)
      | true =>
        have h1 := stp45 hs
        have hd := stp_dec h1
        rw [List.length_drop, List.length_drop] at hd
        obtain ⟨r, r1, r2⟩ := hT (i + 1) (by omega) (by omega)
        have r3 := r2.2 k (by omega)
        have hb2 := lev_b a b ha hb (i + 1) k
        rw [cond_true, r1, Option.bind_some, r3, Option.bind_some, hw _ hb2.1 hb2.2, min_ok, Option.bind_some]
        have p := p2.yes in45 h1
        rw [List.drop_drop, List.drop_zero] at p
        exact hk1 _ p
    refine withK_use Q (fun best => PP (a.drop i) (b.drop k) [43, 45, 120, 61] best) (fun kj1 hk1 => ?_) fun m4 p4 => ?_
    · rw [c_plus a b i k hi hk]
      cases hs : (stp (a.drop i) (b.drop k) 43).isSome with
      | false => rw [cond_false]; exact hk1 _ (p3.no hs)
      | true =>
        have h1 := stp43 hs
        have hd := stp_dec h1
        rw [List.length_drop, List.length_drop] at hd
        have r3 := h (k + 1) (by omega) (by omega)
        have hb2 := lev_b a b ha hb i (k + 1)
        rw [cond_true, r3, Option.bind_some, hw _ hb2.1 hb2.2, min_ok, Option.bind_some]
        have p := p3.yes in43 h1
        rw [List.drop_zero, List.drop_drop] at p
        exact hk1 _ p
    refine withK_use Q (fun best => PP (a.drop i) (b.drop k) [126, 43, 45, 120, 61] best) (fun kj1 hk1 => ?_) fun m5 p5 => ?_
    · rw [subE a i hi, Option.bind_some, subE b k hk, Option.bind_some, c_swap, Option.bind_some]
      cases hs : (stp (a.drop i) (b.drop k) 126).isSome with
      | false => rw [cond_false]; exact hk1 _ (p4.no hs)
      | true =>
        have h1 := stp126 hs
        have hd := stp_dec h1
        rw [List.length_drop, List.length_drop] at hd
        obtain ⟨r, r1, r2⟩ := hT (i + 2) (by omega) (by omega)
        have r3 := r2.2 (k + 2) (by omega)
        have hb2 := lev_b a b ha hb (i + 2) (k + 2)
        rw [cond_true, r1, Option.bind_some, r3, Option.bind_some, hw _ hb2.1 hb2.2, min_ok, Option.bind_some]
        have p := p4.yes in126 h1
        rw [List.drop_drop, List.drop_drop] at p
        exact hk1 _ p
    have hm := p5.all (by decide)
    subst hm
    have hkl : k < l.length := by omega
    rw [idx_lt l k hkl, Option.bind_some, Int.toNat_natCast, w64_id (by omega) (by omega)]
    refine ih N _ (by omega) (by omega) (by simpa using hl) fun k' q1 q2 => ?_
    rw [idx_nat]
    by_cases hc : k' = k
    · subst hc
      rw [List.getElem?_set_self hkl]
    · rw [List.getElem?_set_ne (fun e => hc e.symm), ← idx_nat]
      exact h k' (by omega) q2
theorem sc_l1 (a b : Str) (ha : a.length ≤ 60) (hb : b.length ≤ 60) (kj : List (List Int) → Option (List (List Int))) (Q : Option (List (List Int)) → Prop) (k0 : ∀ T, (∀ i, i ≤ a.length → ∃ r, idx T (i : Int) = some r ∧ Row a b i r) → Q (kj T)) :
    ∀ (j N : Nat) (T : List (List Int)), j ≤ a.length + 1 → j + 100 < N → T.length = a.length + 1 → (∀ i, j ≤ i → i ≤ a.length → ∃ r, idx T (i : Int) = some r ∧ Row a b i r) → Q (s_l19Costs_l1 kj a b N T ((j : Int) - 1)) := by
  intro j
  induction j with
  | zero =>
    intro N T hj hN hl h
    obtain ⟨N, rfl⟩ := pos_fuel (show 0 < N by omega)
    have hz : ¬ ((0 : Nat) : Int) - 1 ≥ 0 := by omega
    rw [s_l19Costs_l1, decide_eq_false hz, cond_false]
    exact k0 T fun i hi => h i (Nat.zero_le _) hi
  | succ i ih =>
    intro N T hj hN hl h
    obtain ⟨N, rfl⟩ := pos_fuel (show 0 < N by omega)
    have e : (((i + 1 : Nat) : Int) - 1) = (i : Int) := by omega
    have hm : mk ((b.length + 1 : Nat) : Int) (0 : Int) = some (List.replicate (b.length + 1) 0) := mk_some _ 0 (by unfold LIM; omega)
    rw [e, s_l19Costs_l1, decide_eq_true (by omega : (i : Int) ≥ 0), cond_true, withK_n, w64_nat b.length (by omega), hm, Option.bind_some, withK_n, show (b.length : Int) = ((b.length + 1 : Nat) : Int) - 1 by omega]
    refine sc_l2 a b ha hb i (by omega) T (fun i' q1 q2 => h i' (by omega) q2) _ Q (fun r hr => ?_) (b.length + 1) N _ (Nat.le_refl _) (by omega) (by simp) fun k q1 q2 => by omega
    have hil : i < T.length := by omega
    rw [idx_lt T i hil, Option.bind_some, Int.toNat_natCast, w64_id (by omega) (by omega)]
    refine ih N _ (by omega) (by omega) (by simpa using hl) fun i' q1 q2 => ?_
    rw [idx_nat]
    by_cases hc : i' = i
    · subst hc
      rw [List.getElem?_set_self hil]
      exact ⟨r, rfl, hr⟩
    · rw [List.getElem?_set_ne (fun e => hc e.symm), ← idx_nat]
      exact h i' (by omega) q2
theorem sc_ok (a b : Str) (ha : a.length ≤ 60) (hb : b.length ≤ 60) (N : Nat) (hN : 300 < N) : ∃ T, s_l19Costs N a b = some T ∧ ∀ i, i ≤ a.length → ∃ r, idx T (i : Int) = some r ∧ Row a b i r := by
  unfold s_l19Costs
  have hm : mk ((a.length + 1 : Nat) : Int) ([] : List Int) = some (List.replicate (a.length + 1) []) := mk_some _ [] (by unfold LIM; omega)
  rw [w64_nat a.length (by omega), hm, Option.bind_some, withK_n, show (a.length : Int) = ((a.length + 1 : Nat) : Int) - 1 by omega]
  exact sc_l1 a b ha hb (fun l => some l) (fun o => ∃ T, o = some T ∧ ∀ i, i ≤ a.length → ∃ r, idx T (i : Int) = some r ∧ Row a b i r) (fun T h => ⟨T, rfl, h⟩) (a.length + 1) N _ (Nat.le_refl _) (by omega) (by simp) fun i q1 q2 => by omega
end Go.Proofs.Ytcegcmoeimjioaa
