/-
  Plain lemmas on these functions. No conditions but those that each states.
-/
import Derived.Test.YtcegcmoeimjioaaFnMarksP8
namespace Go.Proofs.Ytcegcmoeimjioaa
set_option linter.unusedVariables false
set_option linter.unusedSimpArgs false
/-! Numbers of steps. -/
def cnt (c : UInt8) : Str → Nat
  | [] => 0
  | s :: r => (if s = c then 1 else 0) + cnt c r
theorem cnt_le (c : UInt8) : ∀ s : Str, cnt c s ≤ s.length
  | [] => Nat.le_refl _
  | s :: r => by
    have := cnt_le c r
    simp only [cnt, List.length_cons]
    split <;> omega
theorem cb_l1 (s : Str) (c : UInt8) (hs : s.length ≤ 1000) (kj : Int → Option Int) : ∀ (q x N n : Nat), x + q = s.length → q < N → n ≤ x → i_countByte_l1 kj s c N (n : Int) (x : Int) = kj ((n + cnt c (s.drop x) : Nat) : Int) := by
  intro q
  induction q with
  | zero =>
    intro x N n hx hN hn
    obtain ⟨N, rfl⟩ := pos_fuel hN
    rw [i_countByte_l1, decide_eq_false (by omega : ¬ (x : Int) < (s.length : Int)), cond_false, List.drop_eq_nil_of_le (by omega)]
    rfl
  | succ q ih =>
    intro x N n hx hN hn
    obtain ⟨N, rfl⟩ := pos_fuel hN
    have hlt : x < s.length := by omega
    rw [i_countByte_l1, decide_eq_true (by omega : (x : Int) < (s.length : Int)), cond_true, withK_n, idx_lt s x hlt, Option.bind_some, w64_nat n (by omega), w64_nat x (by omega), List.drop_eq_getElem_cons hlt, cnt]
    dsimp only
    by_cases h : s[x] = c
    · rw [beq_iff_eq.2 h, cond_true, if_pos h, ih (x + 1) N (n + 1) (by omega) (by omega) (by omega)]
      congr 2; omega
    · rw [beq_eq_false_iff_ne.2 h, cond_false, if_neg h, ih (x + 1) N n (by omega) (by omega) (by omega)]
      congr 2; omega
theorem cb_ok (s : Str) (c : UInt8) (hs : s.length ≤ 1000) (N : Nat) (hN : 1000 < N) : i_countByte N s c = some (cnt c s : Int) := by
  unfold i_countByte
  rw [withK_n]
  have := cb_l1 s c hs (fun n => some n) s.length 0 N 0 (by omega) (by omega) (Nat.le_refl _)
  rw [show ((0 : Nat) : Int) = 0 from rfl, List.drop_zero, Nat.zero_add] at this
  rw [this]
theorem areSteps_l1 (st : Str) (hst : ∀ s ∈ st, s ∈ Sx) (hl : st.length ≤ 120) (kk : Option Bool) : ∀ (q x N : Nat), x + q = st.length → q < N → i_areSteps_l1 kk st N (x : Int) = kk := by
  intro q
  induction q with
  | zero =>
    intro x N hx hN
    obtain ⟨N, rfl⟩ := pos_fuel hN
    have hz : ¬ (x : Int) < (st.length : Int) := by omega
    rw [i_areSteps_l1, decide_eq_false hz, cond_false]
  | succ q ih =>
    intro x N hx hN
    obtain ⟨N, rfl⟩ := pos_fuel hN
    have hz : (x : Int) < (st.length : Int) := by omega
    have hlt : x < st.length := by omega
    have hm := hst _ (List.getElem_mem hlt)
    have key : ∀ c : UInt8, c ∈ Sx → ∀ kj : Bool → Option Bool, (bif (c == (61 : UInt8)) then kj (c == (61 : UInt8)) else bif (c == (120 : UInt8)) then kj (c == (120 : UInt8)) else bif (c == (45 : UInt8)) then kj (c == (45 : UInt8)) else bif (c == (43 : UInt8)) then kj (c == (43 : UInt8)) else kj (c == (126 : UInt8))) = kj true := by
      intro c hc kj
      simp only [Sx, List.mem_cons, List.not_mem_nil, or_false] at hc
      rcases hc with rfl | rfl | rfl | rfl | rfl <;> rfl
    rw [i_areSteps_l1, decide_eq_true hz, cond_true, idx_lt st x hlt, Option.bind_some, withK_n]
    refine (key _ hm (fun b => bif b then i_areSteps_l1 kk st N (w64 ((x : Int) + 1)) else some false)).trans ?_
    rw [cond_true, w64_nat x (by omega)]
    exact ih (x + 1) N (by omega) (by omega)
theorem steps_ok (st : Str) (hst : ∀ s ∈ st, s ∈ Sx) (hl : st.length ≤ 120) (N : Nat) (hN : 200 < N) : i_areSteps N st = some true := by
  unfold i_areSteps
  rw [withK_n, decide_eq_true (by omega : (st.length : Int) ≤ 120)]
  exact areSteps_l1 st hst hl (some true) st.length 0 N (by omega) (by omega)
theorem Al.mem : ∀ {st : Str} {a b : Str}, Al a b st → ∀ s ∈ st, s ∈ Sx
  | [], _, _, _, s, hs => by cases hs
  | t :: r, a, b, h, s, hs => by
    obtain ⟨h1, di, dk, e, _, h2⟩ := h
    rcases List.mem_cons.1 hs with rfl | hs
    · exact h1
    · exact Al.mem h2 s hs
theorem ei_ok (st : Str) (hst : ∀ s ∈ st, s ∈ Sx) (hl : st.length ≤ 120) (N : Nat) (hN : 2000 < N) : i_ErrorsIn N st = some ([(cnt 43 st : Int), (cnt 45 st : Int), (cnt 120 st : Int), (cnt 126 st : Int)], 0) := by
  obtain ⟨M, rfl⟩ : ∃ M, N = M + 5 := ⟨N - 5, by omega⟩
  unfold i_ErrorsIn
  rw [steps_ok st hst hl _ (by omega), Option.bind_some, Bool.not_true, cond_false, withK_n]
  have l0 : decide ((0 : Int) < (([43, 45, 120, 126] : List Nat).length : Int)) = true := rfl
  have l1 : decide ((1 : Int) < (([43, 45, 120, 126] : List Nat).length : Int)) = true := rfl
  have l2 : decide ((2 : Int) < (([43, 45, 120, 126] : List Nat).length : Int)) = true := rfl
  have l3 : decide ((3 : Int) < (([43, 45, 120, 126] : List Nat).length : Int)) = true := rfl
  have l4 : decide ((4 : Int) < (([43, 45, 120, 126] : List Nat).length : Int)) = false := rfl
  have i0 : idx ([43, 45, 120, 126] : Str) 0 = some 43 := rfl
  have i1 : idx ([43, 45, 120, 126] : Str) 1 = some 45 := rfl
  have i2 : idx ([43, 45, 120, 126] : Str) 2 = some 120 := rfl
  have i3 : idx ([43, 45, 120, 126] : Str) 3 = some 126 := rfl
  have w0 : w64 ((0 : Int) + 1) = 1 := rfl
  have w1 : w64 ((1 : Int) + 1) = 2 := rfl
  have w2 : w64 ((2 : Int) + 1) = 3 := rfl
  have w3 : w64 ((3 : Int) + 1) = 4 := rfl
  have ap : ∀ (l : List Int) (v : Int), l.length ≤ 5 → app l [v] = some (l ++ [v]) := fun l v h => app_some _ _ (by unfold LIM; simp; omega)
  rw [i_ErrorsIn_l1, l0, cond_true, i0, Option.bind_some, cb_ok st 43 (by omega) _ (by omega), Option.bind_some, ap _ _ (by simp), Option.bind_some, w0]
  rw [i_ErrorsIn_l1, l1, cond_true, i1, Option.bind_some, cb_ok st 45 (by omega) _ (by omega), Option.bind_some, ap _ _ (by simp), Option.bind_some, w1]
  rw [i_ErrorsIn_l1, l2, cond_true, i2, Option.bind_some, cb_ok st 120 (by omega) _ (by omega), Option.bind_some, ap _ _ (by simp), Option.bind_some, w2]
  rw [i_ErrorsIn_l1, l3, cond_true, i3, Option.bind_some, cb_ok st 126 (by omega) _ (by omega), Option.bind_some, ap _ _ (by simp), Option.bind_some, w3]
  rw [i_ErrorsIn_l1, l4, cond_false]
  rfl
theorem al_cnt : ∀ (st a b : Str), Al a b st → a.length = cnt 61 st + cnt 45 st + cnt 120 st + 2 * cnt 126 st
  | [], a, b, h => by rw [h.1]; rfl
  | s :: r, a, b, h => by
    obtain ⟨_, di, dk, e, h1, h2⟩ := h
    have ih := al_cnt r _ _ h2
    have hd := stp_dec h1
    rw [List.length_drop] at ih
    rcases stp_cases h1 with ⟨rfl, rfl, _⟩ | ⟨rfl, rfl, _⟩ | ⟨rfl, rfl, _⟩ | ⟨rfl, rfl, _⟩ | ⟨rfl, rfl, _⟩ <;>
      simp only [cnt] at ih ⊢ <;> (try simp) <;> omega
theorem er_cnt : ∀ (st : Str), (∀ s ∈ st, s ∈ Sx) → er st = ((cnt 43 st + cnt 45 st + cnt 120 st + cnt 126 st : Nat) : Int)
  | [], _ => rfl
  | s :: r, h => by
    have ih := er_cnt r fun x hx => h x (List.mem_cons_of_mem _ hx)
    have hs := h s List.mem_cons_self
    simp only [Sx, List.mem_cons, List.not_mem_nil, or_false] at hs
    rcases hs with rfl | rfl | rfl | rfl | rfl <;>
      simp only [er, cnt] at ih ⊢ <;> (try simp) <;> omega
/-! Tables over all bytes. -/
def S (f : Nat → Nat) : Nat → Nat
  | 0 => 0
  | n + 1 => S f n + f n
def Mt (f : Nat → Nat) : List Bool := (List.range 256).map fun j => decide (0 < f j)
def Ct (f : Nat → Nat) : List Int := (List.range 256).map fun j => ((f j : Nat) : Int)
def up (f : Nat → Nat) (c : Nat) : Nat → Nat := fun j => if j = c then f j + 1 else f j
theorem S_up (f : Nat → Nat) (c : Nat) : ∀ n, S (up f c) n = S f n + (if c < n then 1 else 0)
  | 0 => rfl
  | n + 1 => by
    simp only [S, S_up f c n, up]
    by_cases h : n = c
    · subst h; simp; omega
    · rw [if_neg h]
      by_cases h2 : c < n
      · rw [if_pos h2, if_pos (by omega)]; omega
      · rw [if_neg h2, if_neg (by omega)]; omega
theorem idx_Mt (f : Nat → Nat) (c : Nat) (h : c < 256) : idx (Mt f) (c : Int) = some (decide (0 < f c)) := by
  rw [idx_lt _ c (by unfold Mt; simpa using h)]
  unfold Mt
  simp
theorem idx_Ct (f : Nat → Nat) (c : Nat) (h : c < 256) : idx (Ct f) (c : Int) = some (f c : Int) := by
  rw [idx_lt _ c (by unfold Ct; simpa using h)]
  unfold Ct
  simp
theorem set_Mt (f : Nat → Nat) (c : Nat) : (Mt f).set c true = Mt (up f c) := by
  unfold Mt
  apply List.ext_getElem
  · simp
  · intro i h1 h2
    simp only [List.getElem_set, List.getElem_map, List.getElem_range, up]
    by_cases h : c = i
    · subst h; simp
    · rw [if_neg h, if_neg (fun e => h e.symm)]
theorem set_Ct (f : Nat → Nat) (c : Nat) : (Ct f).set c ((f c + 1 : Nat) : Int) = Ct (up f c) := by
  unfold Ct
  apply List.ext_getElem
  · simp
  · intro i h1 h2
    simp only [List.getElem_set, List.getElem_map, List.getElem_range, up]
    by_cases h : c = i
    · subst h; simp
    · rw [if_neg h, if_neg (fun e => h e.symm)]
section
variable (kj : List Bool → List Int → Option (Str × List Int × Int)) (a st : Str) (x N i : Nat) (f : Nat → Nat) (hx : x < st.length) (hl : st.length ≤ 120) (hf : ∀ j, f j ≤ 1000) (hal : a.length ≤ 60)
include hx hl
theorem ml_a (hf : ∀ j, f j ≤ 1000) (c : UInt8) (hi : i < a.length) (hal : a.length ≤ 60) (hc : idx a (i : Int) = some c) (hs : idx st (x : Int) = some 120 ∨ idx st (x : Int) = some 45) : i_MissedLetters_l1 kj a st (N + 1) (Mt f) (Ct f) (i : Int) (x : Int) = i_MissedLetters_l1 kj a st N (Mt (up f c.toNat)) (Ct (up f c.toNat)) ((i + 1 : Nat) : Int) ((x + 1 : Nat) : Int) := by
  have hcl : c.toNat < 256 := c.toNat_lt
  have hfc := hf c.toNat
  have g1 : Int.toNat (UInt8.toNat c : Int) = c.toNat := Int.toNat_natCast _
  have main : i_MissedLetters_l1 kj a st (N + 1) (Mt f) (Ct f) (i : Int) (x : Int) = ((idx a (i : Int)).bind fun c36 => (idx (Ct f) (UInt8.toNat c36 : Int)).bind fun e38 => (idx (Ct f) (UInt8.toNat c36 : Int)).bind fun e40 => (idx a (i : Int)).bind fun c42 => (idx (Mt f) (UInt8.toNat c42 : Int)).bind fun e44 =>
      i_MissedLetters_l1 kj a st N (List.set (Mt f) (Int.toNat (UInt8.toNat c42 : Int)) true) (List.set (Ct f) (Int.toNat (UInt8.toNat c36 : Int)) (w64 (e38 + 1))) (w64 ((i : Int) + 1)) (w64 ((x : Int) + 1))) := by
    rw [i_MissedLetters_l1, decide_eq_true (by omega : (x : Int) < (st.length : Int)), cond_true]
    simp only [withK_n]
    rcases hs with hs | hs <;> rw [hs, Option.bind_some] <;> rfl
  rw [main, hc, Option.bind_some, idx_Ct f _ hcl, Option.bind_some, Option.bind_some, Option.bind_some, idx_Mt f _ hcl, Option.bind_some, g1, w64_nat _ (by omega), set_Mt, set_Ct, w64_nat i (by omega), w64_nat x (by omega)]
theorem ml_61 (hi : i < a.length) (hal : a.length ≤ 60) (hs : idx st (x : Int) = some 61) : i_MissedLetters_l1 kj a st (N + 1) (Mt f) (Ct f) (i : Int) (x : Int) = i_MissedLetters_l1 kj a st N (Mt f) (Ct f) ((i + 1 : Nat) : Int) ((x + 1 : Nat) : Int) := by
  rw [i_MissedLetters_l1, decide_eq_true (by omega : (x : Int) < (st.length : Int)), cond_true]
  simp only [withK_n]
  rw [hs, Option.bind_some]
  simp only [show ((61 : UInt8) == 120) = false from rfl, cond_false, show ((61 : UInt8) == 45) = false from rfl, show ((61 : UInt8) == 61) = true from rfl, cond_true]
  rw [w64_nat i (by omega), w64_nat x (by omega)]
theorem ml_126 (hi : i < a.length) (hal : a.length ≤ 60) (hs : idx st (x : Int) = some 126) : i_MissedLetters_l1 kj a st (N + 1) (Mt f) (Ct f) (i : Int) (x : Int) = i_MissedLetters_l1 kj a st N (Mt f) (Ct f) ((i + 2 : Nat) : Int) ((x + 1 : Nat) : Int) := by
  rw [i_MissedLetters_l1, decide_eq_true (by omega : (x : Int) < (st.length : Int)), cond_true]
  simp only [withK_n]
  rw [hs, Option.bind_some]
  simp only [show ((126 : UInt8) == 120) = false from rfl, cond_false, show ((126 : UInt8) == 45) = false from rfl, show ((126 : UInt8) == 61) = false from rfl, show ((126 : UInt8) == 126) = true from rfl, cond_true]
  rw [w64_id (x := (i : Int) + 2) (by omega) (by omega), w64_nat x (by omega)]
  rfl
theorem ml_43 (hs : idx st (x : Int) = some 43) : i_MissedLetters_l1 kj a st (N + 1) (Mt f) (Ct f) (i : Int) (x : Int) = i_MissedLetters_l1 kj a st N (Mt f) (Ct f) (i : Int) ((x + 1 : Nat) : Int) := by
  rw [i_MissedLetters_l1, decide_eq_true (by omega : (x : Int) < (st.length : Int)), cond_true]
  simp only [withK_n]
  rw [hs, Option.bind_some]
  simp only [show ((43 : UInt8) == 120) = false from rfl, cond_false, show ((43 : UInt8) == 45) = false from rfl, show ((43 : UInt8) == 61) = false from rfl, show ((43 : UInt8) == 126) = false from rfl]
  rw [w64_nat x (by omega)]
end
theorem up_le {f : Nat → Nat} {x : Nat} (h : ∀ j, f j ≤ x) (c : Nat) : ∀ j, up f c j ≤ x + 1 := fun j => by
  have := h j
  unfold up
  split <;> omega
theorem ml_l1 (a st : Str) (ha : a.length ≤ 60) (hl : st.length ≤ 120) (kj : List Bool → List Int → Option (Str × List Int × Int)) : ∀ (q x N i : Nat) (f : Nat → Nat) (B : Str), x + q = st.length → q < N → i ≤ a.length → (∀ j, f j ≤ x) → Al (a.drop i) B (st.drop x) →
    ∃ f', (∀ j, f' j ≤ st.length) ∧ S f' 256 = S f 256 + cnt 45 (st.drop x) + cnt 120 (st.drop x) ∧ i_MissedLetters_l1 kj a st N (Mt f) (Ct f) (i : Int) (x : Int) = kj (Mt f') (Ct f') := by
  intro q
  induction q with
  | zero =>
    intro x N i f B hx hN hi hf h
    obtain ⟨N, rfl⟩ := pos_fuel hN
    refine ⟨f, fun j => by have := hf j; omega, ?_, ?_⟩
    · rw [List.drop_eq_nil_of_le (by omega)]; simp only [cnt, Nat.add_zero]
    · rw [i_MissedLetters_l1, decide_eq_false (by omega : ¬ (x : Int) < (st.length : Int)), cond_false]
  | succ q ih =>
    intro x N i f B hx hN hi hf h
    obtain ⟨N, rfl⟩ := pos_fuel hN
    have hlt : x < st.length := by omega
    have hsx := idx_lt st x hlt
    rw [List.drop_eq_getElem_cons hlt] at h ⊢
    generalize st[x] = s at h hsx
    obtain ⟨_, di, dk, e, h1, h2⟩ := h
    have hd := stp_dec h1
    rw [List.length_drop] at hd
    rw [List.drop_drop] at h2
    have hf1 : ∀ j, f j ≤ x + 1 := fun j => by have := hf j; omega
    rcases stp_cases h1 with ⟨rfl, rfl, _⟩ | ⟨rfl, rfl, _, _, y, a', e1⟩ | ⟨rfl, rfl, _⟩ | ⟨rfl, rfl, _, _, y, a', z, b', e1, _⟩ | ⟨rfl, rfl, _⟩
    · obtain ⟨f', g1, g2, g3⟩ := ih (x + 1) N i f _ (by omega) (by omega) hi hf1 h2
      refine ⟨f', g1, ?_, ?_⟩
      · simp only [cnt]; simp; omega
      · rw [ml_43 kj a st x N i f hlt hl hsx, g3]
    · have hy := (idx_drop e1).1
      obtain ⟨f', g1, g2, g3⟩ := ih (x + 1) N (i + 1) (up f y.toNat) _ (by omega) (by omega) (by omega) (up_le hf _) h2
      refine ⟨f', g1, ?_, ?_⟩
      · rw [S_up, if_pos (UInt8.toNat_lt y)] at g2
        simp only [cnt]; simp; omega
      · rw [ml_a kj a st x N i f hlt hl (fun j => by have := hf j; omega) y (by omega) ha hy (.inr hsx), g3]
    · obtain ⟨f', g1, g2, g3⟩ := ih (x + 1) N (i + 1) f _ (by omega) (by omega) (by omega) hf1 h2
      refine ⟨f', g1, ?_, ?_⟩
      · simp only [cnt]; simp; omega
      · rw [ml_61 kj a st x N i f hlt hl (by omega) ha hsx, g3]
    · have hy := (idx_drop e1).1
      obtain ⟨f', g1, g2, g3⟩ := ih (x + 1) N (i + 1) (up f y.toNat) _ (by omega) (by omega) (by omega) (up_le hf _) h2
      refine ⟨f', g1, ?_, ?_⟩
      · rw [S_up, if_pos (UInt8.toNat_lt y)] at g2
        simp only [cnt]; simp; omega
      · rw [ml_a kj a st x N i f hlt hl (fun j => by have := hf j; omega) y (by omega) ha hy (.inl hsx), g3]
    · obtain ⟨f', g1, g2, g3⟩ := ih (x + 1) N (i + 2) f _ (by omega) (by omega) (by omega) hf1 h2
      refine ⟨f', g1, ?_, ?_⟩
      · simp only [cnt]; simp; omega
      · rw [ml_126 kj a st x N i f hlt hl (by omega) ha hsx, g3]
/-! The letters in order. -/
def As (f : Nat → Nat) (x : Nat) : Str := ((List.range x).filter fun j => decide (0 < f j)).map fun j => UInt8.ofNat j
theorem As_succ (f : Nat → Nat) (x : Nat) : As f (x + 1) = As f x ++ (if 0 < f x then [UInt8.ofNat x] else []) := by
  unfold As
  rw [List.range_succ, List.filter_append, List.map_append]
  by_cases h : 0 < f x
  · simp [h]
  · simp [h]
theorem As_len (f : Nat → Nat) : ∀ x, (As f x).length ≤ x
  | 0 => Nat.le_refl _
  | x + 1 => by
    have := As_len f x
    rw [As_succ, List.length_append]
    split <;> simp <;> omega
theorem ofI (x : Nat) (h : x < 256) : UInt8.ofInt (x : Int) = UInt8.ofNat x := by
  rw [UInt8.ofInt]
  have : ((x : Int) % 2 ^ 8).toNat = x := by omega
  rw [this]
theorem ac_l1 (f : Nat → Nat) (kj : List UInt8 → Option Str) : ∀ (q x N : Nat), x + q = 256 → q < N → i_ascending_l1 kj (Mt f) N (As f x) (x : Int) = kj (As f 256) := by
  intro q
  induction q with
  | zero =>
    intro x N hx hN
    obtain ⟨N, rfl⟩ := pos_fuel hN
    rw [i_ascending_l1, decide_eq_false (by omega : ¬ (x : Int) < 256), cond_false, show x = 256 by omega]
  | succ q ih =>
    intro x N hx hN
    obtain ⟨N, rfl⟩ := pos_fuel hN
    have hl := As_len f x
    have hs := As_succ f x
    rw [i_ascending_l1, decide_eq_true (by omega : (x : Int) < 256), cond_true]
    simp only [withK_n]
    rw [idx_Mt f x (by omega), Option.bind_some, w64_nat x (by omega)]
    by_cases h : 0 < f x
    · rw [if_pos h] at hs
      rw [decide_eq_true h, cond_true, ofI x (by omega), app_some _ _ (by unfold LIM; simp; omega), Option.bind_some, ← hs]
      exact ih (x + 1) N (by omega) (by omega)
    · rw [if_neg h, List.append_nil] at hs
      rw [decide_eq_false h, cond_false, ← hs]
      exact ih (x + 1) N (by omega) (by omega)
theorem ac_ok (f : Nat → Nat) (N : Nat) (hN : 300 < N) : i_ascending N (Mt f) = some (As f 256) := by
  unfold i_ascending
  rw [withK_n]
  have := ac_l1 f (fun l => some l) 256 0 N (by omega) (by omega)
  rw [show ((0 : Nat) : Int) = 0 from rfl, show As f 0 = [] from rfl] at this
  exact this
def isum : List Int → Int
  | [] => 0
  | x :: r => x + isum r
theorem isum_app : ∀ a b : List Int, isum (a ++ b) = isum a + isum b
  | [], b => by simp [isum]
  | x :: a, b => by simp only [List.cons_append, isum, isum_app a b]; omega
theorem nat8 (x : Nat) (h : x < 256) : (UInt8.ofNat x).toNat = x := by
  rw [UInt8.toNat_ofNat']; omega
theorem As_sum (f : Nat → Nat) : ∀ x, x ≤ 256 → isum ((As f x).map fun c => (f c.toNat : Int)) = ((S f x : Nat) : Int)
  | 0, _ => rfl
  | x + 1, h => by
    rw [As_succ, List.map_append, isum_app, As_sum f x (by omega), S]
    by_cases g : 0 < f x
    · rw [if_pos g]
      simp only [List.map_cons, List.map_nil, isum]
      rw [nat8 x (by omega)]; omega
    · rw [if_neg g]
      simp only [List.map_nil, isum]; omega
theorem As_mem {f : Nat → Nat} {x : Nat} (hx : x ≤ 256) {c : UInt8} (h : c ∈ As f x) : c.toNat < x ∧ 0 < f c.toNat := by
  unfold As at h
  rw [List.mem_map] at h
  obtain ⟨j, h1, rfl⟩ := h
  rw [List.mem_filter, List.mem_range] at h1
  rw [nat8 j (by omega)]
  exact ⟨h1.1, of_decide_eq_true h1.2⟩
theorem As_pw (f : Nat → Nat) : ∀ x, x ≤ 256 → (As f x).Pairwise fun a b => a.toNat < b.toNat
  | 0, _ => List.Pairwise.nil
  | x + 1, h => by
    rw [As_succ, List.pairwise_append]
    refine ⟨As_pw f x (by omega), ?_, fun a ha b hb => ?_⟩
    · split <;> simp
    · split at hb
      · rw [List.mem_singleton] at hb
        rw [hb, nat8 x (by omega)]
        exact (As_mem (by omega) ha).1
      · cases hb
theorem mc_l2 (f : Nat → Nat) (G : Str) (hG : G.length ≤ 256) (kj : List Int → Option (Str × List Int × Int)) : ∀ (q x N : Nat), x + q = G.length → q < N → i_MissedLetters_l2 kj (Ct f) G N ((G.take x).map fun c => (f c.toNat : Int)) (x : Int) = kj (G.map fun c => (f c.toNat : Int)) := by
  intro q
  induction q with
  | zero =>
    intro x N hx hN
    obtain ⟨N, rfl⟩ := pos_fuel hN
    rw [i_MissedLetters_l2, decide_eq_false (by omega : ¬ (x : Int) < (G.length : Int)), cond_false, List.take_of_length_le (by omega)]
  | succ q ih =>
    intro x N hx hN
    obtain ⟨N, rfl⟩ := pos_fuel hN
    have hlt : x < G.length := by omega
    rw [i_MissedLetters_l2, decide_eq_true (by omega : (x : Int) < (G.length : Int)), cond_true, idx_lt G x hlt, Option.bind_some, idx_Ct f _ (UInt8.toNat_lt _), Option.bind_some, app_some _ _ (by unfold LIM; simp; omega), Option.bind_some, w64_nat x (by omega)]
    have : (G.take x).map (fun c => (f c.toNat : Int)) ++ [(f G[x].toNat : Int)] = (G.take (x + 1)).map fun c => (f c.toNat : Int) := by
      rw [List.take_succ_eq_append_getElem hlt, List.map_append]; rfl
    rw [this]
    exact ih (x + 1) N (by omega) (by omega)
theorem rep_Mt : List.replicate 256 false = Mt fun _ => 0 := by
  unfold Mt
  rw [List.map_const', List.length_range]
  exact congrArg (List.replicate 256) (decide_eq_false (Nat.lt_irrefl 0)).symm
theorem rep_Ct : List.replicate 256 (0 : Int) = Ct fun _ => 0 := by
  unfold Ct
  rw [List.map_const', List.length_range]
  exact congrArg (List.replicate 256) (rfl : (0 : Int) = ((0 : Nat) : Int))
theorem S_zero : ∀ n, S (fun _ => 0) n = 0
  | 0 => rfl
  | n + 1 => by rw [S, S_zero n]
theorem missed_ok (a b : Str) (ha : TX a) (hb : TX b) (N : Nat) (hN : 1000 < N) : ∃ f : Nat → Nat, (∀ j, f j ≤ 120) ∧ S f 256 = cnt 45 (alg a b) + cnt 120 (alg a b) ∧ i_MissedLetters N a b = some (As f 256, (As f 256).map (fun c => (f c.toNat : Int)), 0) := by
  obtain ⟨s1, s2, s3⟩ := alg_spec a b
  have ha1 := ha.1
  have hb1 := hb.1
  obtain ⟨f, h1, h2, h3⟩ := ml_l1 a (alg a b) ha1 (by omega) (fun l15 l16 => (i_ascending N l15).bind fun r48 => withK (fun (l51 : List Int) => some (r48, l51, (0 : Int))) fun (kj53 : List Int → Option (Str × List Int × Int)) => i_MissedLetters_l2 kj53 l16 r48 N [] 0) (alg a b).length 0 N 0 (fun _ => 0) b (by omega) (by omega) (Nat.zero_le _) (fun _ => Nat.le_refl _) (by simpa using s1)
  refine ⟨f, fun j => by have := h1 j; omega, ?_, ?_⟩
  · rw [h2, S_zero, List.drop_zero]; omega
  · unfold i_MissedLetters
    rw [tx_ok a ha N (by omega), Option.bind_some, tx_ok b hb N (by omega), Bool.not_true, orO_false, Option.bind_some, Bool.not_true, Option.bind_some, cond_false, al_ok a b ha.1 hb.1 N (by omega), Option.bind_some, withK_n, rep_Mt, rep_Ct]
    rw [show ((0 : Nat) : Int) = 0 from rfl] at h3
    rw [h3, ac_ok f N (by omega), Option.bind_some, withK_n]
    have hl := As_len f 256
    have := mc_l2 f (As f 256) hl (fun l => some (As f 256, l, (0 : Int))) (As f 256).length 0 N (by omega) (by omega)
    rw [show ((0 : Nat) : Int) = 0 from rfl, List.take_zero] at this
    exact this
end Go.Proofs.Ytcegcmoeimjioaa
