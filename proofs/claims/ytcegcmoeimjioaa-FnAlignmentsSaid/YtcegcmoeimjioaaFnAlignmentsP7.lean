/-
  Plain lemmas on these functions. No conditions but those that each states.
-/
import Derived.Test.YtcegcmoeimjioaaFnAlignmentsP6
namespace Go.Proofs.Ytcegcmoeimjioaa
set_option linter.unusedVariables false
set_option linter.unusedSimpArgs false
/-! The typed text from the steps, and the law. -/
theorem withK_n {A B : Type} (k : A) (b : A → B) : withK k b = b k := Eq.trans rfl rfl
theorem steps_l1 (st : Str) (hst : ∀ s ∈ st, s ∈ Sx) (hl : st.length ≤ 120) : ∀ (q x N : Nat), x + q = st.length → q < N → i_areSteps_l1 (some true) st N (x : Int) = some true := by
  intro q
  induction q with
  | zero =>
    intro x N hx hN
    obtain ⟨N, rfl⟩ := pos_fuel hN
    have hz : ¬ (x : Int) < (st.length : Int) := by omega
    simp only [i_areSteps_l1, hz, decide_false, cond_false]
  | succ q ih =>
    intro x N hx hN
    obtain ⟨N, rfl⟩ := pos_fuel hN
    have hz : (x : Int) < (st.length : Int) := by omega
    have hlt : x < st.length := by omega
    have hm := hst _ (List.getElem_mem hlt)
    have key : ∀ c : UInt8, c ∈ Sx → ∀ kj : Bool → Option Bool, (bif (c == (61 : UInt8)) then kj (c == (61 : UInt8)) else bif (c == (120 : UInt8)) then kj (c == (120 : UInt8)) else bif (c == (45 : UInt8)) then kj (c == (45 : UInt8)) else bif (c == (43 : UInt8)) then kj (c == (43 : UInt8)) else kj (c == (126 : UInt8))) = kj true := by
      intro c hc kj
      simp only [Sx, List.mem_cons, List.not_mem_nil, or_false] at hc
      rcases hc with rfl | rfl | rfl | rfl | rfl <;> rfl
    simp only [i_areSteps_l1, hz, decide_true, cond_true, withK_eq]
    rw [idx_lt st x hlt, Option.bind_some]
    refine (key _ hm (fun b => bif b then i_areSteps_l1 (some true) st N (w64 ((x : Int) + 1)) else some false)).trans ?_
    rw [cond_true, w64_nat x (by omega)]
    exact ih (x + 1) N (by omega) (by omega)
theorem steps_ok (st : Str) (hst : ∀ s ∈ st, s ∈ Sx) (hl : st.length ≤ 120) (N : Nat) (hN : 200 < N) : i_areSteps N st = some true := by
  unfold i_areSteps
  simp only [withK_eq]
  rw [decide_eq_true (by omega : (st.length : Int) ≤ 120)]
  exact steps_l1 st hst hl st.length 0 N (by omega) (by omega)
theorem Al.mem : ∀ {st : Str} {a b : Str}, Al a b st → ∀ s ∈ st, s ∈ Sx
  | [], _, _, _, s, hs => by cases hs
  | t :: r, a, b, h, s, hs => by
    obtain ⟨h1, di, dk, e, _, h2⟩ := h
    rcases List.mem_cons.1 hs with rfl | hs
    · exact h1
    · exact Al.mem h2 s hs
theorem step_yes {a b : Str} {s : UInt8} (hs : s ∈ Sx) {di dk : Nat} {e : Int} (h : stp a b s = some (di, dk, e)) : i_stepAt a b s = some ((di : Int), (dk : Int), e, true) := by
  rcases step_ok a b s hs with ⟨d1, d2, e1, g1, g2⟩ | ⟨g1, _⟩
  · rw [h] at g1
    obtain ⟨rfl, rfl, rfl⟩ : di = d1 ∧ dk = d2 ∧ e = e1 := by simpa using g1
    exact g2
  · rw [h] at g1; cases g1
theorem aligns_l1 (a b st : Str) (ha : a.length ≤ 60) (hb : b.length ≤ 60) (hl : st.length ≤ 120) (kj : Int → Int → Option Bool) : ∀ (q x N i k : Nat), x + q = st.length → q < N → i ≤ a.length → k ≤ b.length → Al (a.drop i) (b.drop k) (st.drop x) → i_aligns_l1 kj a b st N (i : Int) (k : Int) (x : Int) = kj (a.length : Int) (b.length : Int) := by
  intro q
  induction q with
  | zero =>
    intro x N i k hx hN hi hk h
    obtain ⟨N, rfl⟩ := pos_fuel hN
    have hz : ¬ (x : Int) < (st.length : Int) := by omega
    simp only [i_aligns_l1, hz, decide_false, cond_false]
    have hS : st.drop x = [] := List.drop_eq_nil_of_le (by omega)
    rw [hS] at h
    have h1 := congrArg List.length h.1
    have h2 := congrArg List.length h.2
    rw [List.length_drop, List.length_nil] at h1 h2
    rw [show i = a.length by omega, show k = b.length by omega]
  | succ q ih =>
    intro x N i k hx hN hi hk h
    obtain ⟨N, rfl⟩ := pos_fuel hN
    have hz : (x : Int) < (st.length : Int) := by omega
    have hlt : x < st.length := by omega
    rw [List.drop_eq_getElem_cons hlt] at h
    obtain ⟨h1, di, dk, e, h2, h3⟩ := h
    have hd := stp_dec h2
    rw [List.length_drop, List.length_drop] at hd
    simp only [i_aligns_l1, hz, decide_true, cond_true]
    rw [subE a i hi, Option.bind_some, subE b k hk, Option.bind_some, idx_lt st x hlt, Option.bind_some, step_yes h1 h2, Option.bind_some]
    simp only [Bool.not_true, cond_false]
    rw [w64_id (by omega) (by omega), w64_id (by omega) (by omega), w64_nat x (by omega)]
    rw [List.drop_drop, List.drop_drop] at h3
    exact ih (x + 1) N (i + di) (k + dk) (by omega) (by omega) (by omega) (by omega) h3
theorem aligns_ok (a b st : Str) (ha : a.length ≤ 60) (hb : b.length ≤ 60) (hl : st.length ≤ 120) (h : Al a b st) (N : Nat) (hN : 200 < N) : i_aligns N a b st = some true := by
  unfold i_aligns
  simp only [withK_eq]
  have := aligns_l1 a b st ha hb hl (fun (i4 : Int) (k5 : Int) => (andO (i4 == (a.length : Int)) (some (k5 == (b.length : Int)))).bind fun t21 => some t21) st.length 0 N 0 0 (by omega) (by omega) (Nat.zero_le _) (Nat.zero_le _) (by simpa using h)
  rw [show ((0 : Nat) : Int) = 0 from rfl] at this
  rw [this]
  simp only [beq_self_eq_true, andO_true, Option.bind_some]
/-- the letters that must be told -/
def exT : Str → Str → Str
  | _, [] => []
  | b, s :: r => if s = 43 ∨ s = 120 then b.take 1 ++ exT (b.drop 1) r else if s = 61 then exT (b.drop 1) r else if s = 126 then exT (b.drop 2) r else exT b r
theorem exT_len : ∀ (st b : Str), (exT b st).length ≤ st.length
  | [], _ => Nat.le_refl _
  | s :: r, b => by
    simp only [exT, List.length_cons]
    split
    · have := exT_len r (b.drop 1); rw [List.length_append, List.length_take]; omega
    · split
      · have := exT_len r (b.drop 1); omega
      · split
        · have := exT_len r (b.drop 2); omega
        · have := exT_len r b; omega
theorem exT_ch : ∀ (st b : Str), CH b → CH (exT b st)
  | [], _, _ => fun c hc => by cases hc
  | s :: r, b, h => by
    have hd : ∀ n, CH (b.drop n) := fun n c hc => h c (List.mem_of_mem_drop hc)
    simp only [exT]
    split
    · exact CH.app (fun c hc => h c (List.mem_of_mem_take hc)) (exT_ch r _ (hd 1))
    · split
      · exact exT_ch r _ (hd 1)
      · split
        · exact exT_ch r _ (hd 2)
        · exact exT_ch r b h
/-- what follows one step -/
theorem Al.step {a b r : Str} {s : UInt8} (h : Al a b (s :: r)) :
    (s = 43 ∧ ∃ y b', b = y :: b' ∧ Al a b' r) ∨ (s = 45 ∧ ∃ x a', a = x :: a' ∧ Al a' b r) ∨ (s = 61 ∧ ∃ x a' b', a = x :: a' ∧ b = x :: b' ∧ Al a' b' r) ∨
    (s = 120 ∧ ∃ x a' y b', a = x :: a' ∧ b = y :: b' ∧ Al a' b' r) ∨ (s = 126 ∧ ∃ x y a' b', a = x :: y :: a' ∧ b = y :: x :: b' ∧ Al a' b' r) := by
  obtain ⟨h1, di, dk, e, h2, h3⟩ := h
  rcases stp_cases h2 with ⟨rfl, rfl, rfl, rfl, y, b', rfl⟩ | ⟨rfl, rfl, rfl, rfl, x, a', rfl⟩ | ⟨rfl, rfl, rfl, rfl, x, a', b', rfl, rfl⟩ | ⟨rfl, rfl, rfl, rfl, x, a', y, b', rfl, rfl, _⟩ | ⟨rfl, rfl, rfl, rfl, x, y, a', b', rfl, rfl, _⟩
  · exact .inl ⟨rfl, y, b', rfl, by simpa using h3⟩
  · exact .inr (.inl ⟨rfl, x, a', rfl, by simpa using h3⟩)
  · exact .inr (.inr (.inl ⟨rfl, x, a', b', rfl, rfl, by simpa using h3⟩))
  · exact .inr (.inr (.inr (.inl ⟨rfl, x, a', y, b', rfl, rfl, by simpa using h3⟩)))
  · exact .inr (.inr (.inr (.inr ⟨rfl, x, y, a', b', rfl, rfl, by simpa using h3⟩)))
theorem idx_drop {s r : Str} {i : Nat} {c : UInt8} (h : s.drop i = c :: r) : idx s (i : Int) = some c ∧ s.drop (i + 1) = r ∧ i < s.length := by
  have hl : i < s.length := by
    have := congrArg List.length h
    rw [List.length_drop] at this
    simp at this; omega
  rw [List.drop_eq_getElem_cons hl] at h
  injection h with h1 h2
  exact ⟨by rw [idx_lt s i hl, h1], h2, hl⟩
section
variable (a st ex : Str) (ha : a.length ≤ 60) (hl : st.length ≤ 120) (hex : ex.length ≤ 60) (kj : List UInt8 → Int → Option (Str × Int)) (x N i u : Nat) (l : Str) (hx : x < st.length) (hll : l.length ≤ 1000)
include ha hl hex hx hll
theorem tf_43 (c : UInt8) (hi : i ≤ a.length) (hu : u < ex.length) (hc : idx ex (u : Int) = some c) (hs : idx st (x : Int) = some 43) : i_TypedFrom_l1 kj a st ex (N + 1) l (i : Int) (u : Int) (x : Int) = i_TypedFrom_l1 kj a st ex N (l ++ [c]) (i : Int) ((u + 1 : Nat) : Int) ((x + 1 : Nat) : Int) := by
  have hz : (x : Int) < (st.length : Int) := by omega
  rw [i_TypedFrom_l1, decide_eq_true hz, cond_true, hs, Option.bind_some]
  simp only [withK_n]
  rw [show ((43 : UInt8) == 43) = true from rfl, cond_true, w64_id (x := (i : Int) + 0) (by omega) (by omega), w64_nat u (by omega), w64_nat x (by omega), decide_eq_false (by omega), decide_eq_false (by omega), orO_false, Option.bind_some, cond_false]
  rw [show ((43 : UInt8) == 61) = false from rfl, cond_false, show ((43 : UInt8) == 120) = false from rfl, cond_false, cond_true, hc, Option.bind_some, app_some _ _ (by unfold LIM; simp; omega), Option.bind_some, Int.add_zero]
theorem tf_45 (hi : i < a.length) (hu : u ≤ ex.length) (hs : idx st (x : Int) = some 45) : i_TypedFrom_l1 kj a st ex (N + 1) l (i : Int) (u : Int) (x : Int) = i_TypedFrom_l1 kj a st ex N l ((i + 1 : Nat) : Int) (u : Int) ((x + 1 : Nat) : Int) := by
  have _ := hll
  have hz : (x : Int) < (st.length : Int) := by omega
  rw [i_TypedFrom_l1, decide_eq_true hz, cond_true, hs, Option.bind_some]
  simp only [withK_n]
  rw [show ((45 : UInt8) == 43) = false from rfl, cond_false, show ((45 : UInt8) == 120) = false from rfl, cond_false, show ((45 : UInt8) == 126) = false from rfl, cond_false, w64_id (x := (u : Int) + 0) (by omega) (by omega), w64_nat i (by omega), w64_nat x (by omega), decide_eq_false (by omega), decide_eq_false (by omega), orO_false, Option.bind_some, cond_false]
  rw [show ((45 : UInt8) == 61) = false from rfl, cond_false, cond_false, cond_false, cond_false, Int.add_zero]
theorem tf_61 (c : UInt8) (hi : i < a.length) (hu : u ≤ ex.length) (hc : idx a (i : Int) = some c) (hs : idx st (x : Int) = some 61) : i_TypedFrom_l1 kj a st ex (N + 1) l (i : Int) (u : Int) (x : Int) = i_TypedFrom_l1 kj a st ex N (l ++ [c]) ((i + 1 : Nat) : Int) (u : Int) ((x + 1 : Nat) : Int) := by
  have hz : (x : Int) < (st.length : Int) := by omega
  rw [i_TypedFrom_l1, decide_eq_true hz, cond_true, hs, Option.bind_some]
  simp only [withK_n]
  rw [show ((61 : UInt8) == 43) = false from rfl, cond_false, show ((61 : UInt8) == 120) = false from rfl, cond_false, show ((61 : UInt8) == 126) = false from rfl, cond_false, w64_id (x := (u : Int) + 0) (by omega) (by omega), w64_nat i (by omega), w64_nat x (by omega), decide_eq_false (by omega), decide_eq_false (by omega), orO_false, Option.bind_some, cond_false]
  rw [show ((61 : UInt8) == 61) = true from rfl, cond_true, hc, Option.bind_some, app_some _ _ (by unfold LIM; simp; omega), Option.bind_some, Int.add_zero]
theorem tf_120 (c : UInt8) (hi : i < a.length) (hu : u < ex.length) (hc : idx ex (u : Int) = some c) (hs : idx st (x : Int) = some 120) : i_TypedFrom_l1 kj a st ex (N + 1) l (i : Int) (u : Int) (x : Int) = i_TypedFrom_l1 kj a st ex N (l ++ [c]) ((i + 1 : Nat) : Int) ((u + 1 : Nat) : Int) ((x + 1 : Nat) : Int) := by
  have hz : (x : Int) < (st.length : Int) := by omega
  rw [i_TypedFrom_l1, decide_eq_true hz, cond_true, hs, Option.bind_some]
  simp only [withK_n]
  rw [show ((120 : UInt8) == 43) = false from rfl, cond_false, show ((120 : UInt8) == 120) = true from rfl, cond_true, w64_nat u (by omega), w64_nat i (by omega), w64_nat x (by omega), decide_eq_false (by omega), decide_eq_false (by omega), orO_false, Option.bind_some, cond_false]
  rw [show ((120 : UInt8) == 61) = false from rfl, cond_false, cond_true, cond_true, hc, Option.bind_some, app_some _ _ (by unfold LIM; simp; omega), Option.bind_some]
theorem tf_126 (c d : UInt8) (hi : i + 1 < a.length) (hu : u ≤ ex.length) (hc : idx a (i : Int) = some c) (hd : idx a ((i + 1 : Nat) : Int) = some d) (hs : idx st (x : Int) = some 126) : i_TypedFrom_l1 kj a st ex (N + 1) l (i : Int) (u : Int) (x : Int) = i_TypedFrom_l1 kj a st ex N (l ++ [d, c]) ((i + 2 : Nat) : Int) (u : Int) ((x + 1 : Nat) : Int) := by
  have hz : (x : Int) < (st.length : Int) := by omega
  rw [i_TypedFrom_l1, decide_eq_true hz, cond_true, hs, Option.bind_some]
  simp only [withK_n]
  rw [show ((126 : UInt8) == 43) = false from rfl, cond_false, show ((126 : UInt8) == 120) = false from rfl, cond_false, show ((126 : UInt8) == 126) = true from rfl, cond_true, w64_id (x := (u : Int) + 0) (by omega) (by omega), w64_id (x := (i : Int) + 2) (by omega) (by omega), w64_nat x (by omega), decide_eq_false (by omega), decide_eq_false (by omega), orO_false, Option.bind_some, cond_false]
  rw [show ((126 : UInt8) == 61) = false from rfl, cond_false, cond_false, cond_true, w64_nat i (by omega), hd, Option.bind_some, hc, Option.bind_some, app_some _ _ (by unfold LIM; simp; omega), Option.bind_some, Int.add_zero]
  rfl
end
theorem tk1 {b r : Str} {k : Nat} {c : UInt8} (h : b.drop k = c :: r) : b.take (k + 1) = b.take k ++ [c] := by
  obtain ⟨h1, _, h3⟩ := idx_drop h
  rw [idx_lt b k h3] at h1
  rw [List.take_succ_eq_append_getElem h3, Option.some.inj h1]
theorem tf_l1 (a b st ex : Str) (ha : a.length ≤ 60) (hb : b.length ≤ 60) (hl : st.length ≤ 120) (hex : ex.length ≤ 60) (kj : List UInt8 → Int → Option (Str × Int)) : ∀ (q x N i k u : Nat), x + q = st.length → q < N → i ≤ a.length → k ≤ b.length → u ≤ ex.length → Al (a.drop i) (b.drop k) (st.drop x) → ex.drop u = exT (b.drop k) (st.drop x) →
    i_TypedFrom_l1 kj a st ex N (b.take k) (i : Int) (u : Int) (x : Int) = kj b (ex.length : Int) := by
  intro q
  induction q with
  | zero =>
    intro x N i k u hx hN hi hk hu h he
    obtain ⟨N, rfl⟩ := pos_fuel hN
    have hz : ¬ (x : Int) < (st.length : Int) := by omega
    simp only [i_TypedFrom_l1, hz, decide_false, cond_false]
    have hS : st.drop x = [] := List.drop_eq_nil_of_le (by omega)
    rw [hS] at h he
    have h2 := congrArg List.length h.2
    have h3 := congrArg List.length he
    rw [List.length_drop, List.length_nil] at h2
    rw [List.length_drop] at h3
    simp only [exT, List.length_nil] at h3
    rw [List.take_of_length_le (by omega), show u = ex.length by omega]
  | succ q ih =>
    intro x N i k u hx hN hi hk hu h he
    obtain ⟨N, rfl⟩ := pos_fuel hN
    have hz : (x : Int) < (st.length : Int) := by omega
    have hlt : x < st.length := by omega
    rw [List.drop_eq_getElem_cons hlt] at h he
    have hsx := idx_lt st x hlt
    generalize st[x] = s at h he hsx
    have hkl : (b.take k).length ≤ 1000 := by rw [List.length_take]; omega
    rcases h.step with ⟨rfl, y, b', e1, h'⟩ | ⟨rfl, y, a', e1, h'⟩ | ⟨rfl, y, a', b', e1, e2, h'⟩ | ⟨rfl, y, a', z, b', e1, e2, h'⟩ | ⟨rfl, y, z, a', b', e1, e2, h'⟩
    · obtain ⟨_, d1, d2⟩ := idx_drop e1
      have he2 : ex.drop u = y :: exT b' (st.drop (x + 1)) := by rw [he, e1]; rfl
      obtain ⟨f1, f2, f3⟩ := idx_drop he2
      rw [tf_43 a st ex ha hl hex kj x N i u _ hlt hkl y hi f3 f1 hsx, ← tk1 e1]
      exact ih (x + 1) N i (k + 1) (u + 1) (by omega) (by omega) hi (by omega) (by omega) (by rw [d1]; exact h') (by rw [f2, d1])
    · obtain ⟨_, d1, d2⟩ := idx_drop e1
      have he2 : ex.drop u = exT (b.drop k) (st.drop (x + 1)) := by rw [he]; rfl
      rw [tf_45 a st ex ha hl hex kj x N i u _ hlt hkl d2 hu hsx]
      exact ih (x + 1) N (i + 1) k u (by omega) (by omega) (by omega) hk hu (by rw [d1]; exact h') he2
    · obtain ⟨p1, d1, d2⟩ := idx_drop e1
      obtain ⟨_, d3, d4⟩ := idx_drop e2
      have he2 : ex.drop u = exT b' (st.drop (x + 1)) := by rw [he, e2]; rfl
      rw [tf_61 a st ex ha hl hex kj x N i u _ hlt hkl y d2 hu p1 hsx, ← tk1 e2]
      exact ih (x + 1) N (i + 1) (k + 1) u (by omega) (by omega) (by omega) (by omega) hu (by rw [d1, d3]; exact h') (by rw [he2, d3])
    · obtain ⟨_, d1, d2⟩ := idx_drop e1
      obtain ⟨_, d3, d4⟩ := idx_drop e2
      have he2 : ex.drop u = z :: exT b' (st.drop (x + 1)) := by rw [he, e2]; rfl
      obtain ⟨f1, f2, f3⟩ := idx_drop he2
      rw [tf_120 a st ex ha hl hex kj x N i u _ hlt hkl z d2 f3 f1 hsx, ← tk1 e2]
      exact ih (x + 1) N (i + 1) (k + 1) (u + 1) (by omega) (by omega) (by omega) (by omega) (by omega) (by rw [d1, d3]; exact h') (by rw [f2, d3])
    · obtain ⟨p1, d1, d2⟩ := idx_drop e1
      obtain ⟨p2, d1', d2'⟩ := idx_drop d1
      obtain ⟨_, d3, d4⟩ := idx_drop e2
      obtain ⟨_, d3', d4'⟩ := idx_drop d3
      have he2 : ex.drop u = exT b' (st.drop (x + 1)) := by rw [he, e2]; rfl
      have htk2 : b.take (k + 2) = b.take k ++ [z, y] := by
        rw [tk1 d3, tk1 e2]; simp
      rw [tf_126 a st ex ha hl hex kj x N i u _ hlt hkl y z d2' hu p1 p2 hsx, ← htk2]
      exact ih (x + 1) N (i + 2) (k + 2) u (by omega) (by omega) (by omega) (by omega) hu (by rw [d1', d3']; exact h') (by rw [he2, d3'])
theorem tf_ok (a b st : Str) (ha : TX a) (hb : TX b) (hl : st.length ≤ 60) (h : Al a b st) (N : Nat) (hN : 400 < N) : i_TypedFrom N a st (exT b st) = some (b, 0) := by
  have hel := exT_len st b
  have hex : TX (exT b st) := ⟨by omega, exT_ch st b hb.2⟩
  have hb60 := hb.1
  unfold i_TypedFrom
  rw [tx_ok a ha N (by omega), Option.bind_some, tx_ok _ hex N (by omega)]
  simp only [Bool.not_true, orO_false, Option.bind_some, cond_false]
  rw [steps_ok st h.mem (by omega) N (by omega), Option.bind_some]
  simp only [Bool.not_true, cond_false, withK_n]
  have := tf_l1 a b st (exT b st) ha.1 hb.1 (by omega) hex.1 (fun l16 used18 => (orO (used18 != ((exT b st).length : Int)) ((i_aligns N a l16 st).bind fun r74 => some (!r74))).bind fun t71 => bif t71 then some ([], 9) else bif decide ((l16.length : Int) > 60) then some ([], 5) else some (l16, 0)) st.length 0 N 0 0 0 (by omega) (by omega) (Nat.zero_le _) (Nat.zero_le _) (Nat.zero_le _) (by simpa using h) (by simp)
  rw [show ((0 : Nat) : Int) = 0 from rfl, List.take_zero] at this
  rw [this, aligns_ok a b st ha.1 hb.1 (by omega) h N (by omega)]
  simp only [bne_self_eq_false, Bool.not_true, Option.bind_some, orO_false, cond_false]
  rw [decide_eq_false (by omega), cond_false]
section
variable (kj : Str → Option Bool) (r10 : Str × Str) (r16 : Str × Int) (x N at_ : Nat) (acc : Str) (hx : x < r16.1.length) (hl : r16.1.length ≤ 60) (hb : r10.2.length ≤ 60) (hac : acc.length ≤ 100)
include hx hl hb hac
theorem la_43 (c : UInt8) (hat : at_ < r10.2.length) (hs : idx r16.1 (x : Int) = some 43) (hc : sub r10.2 (at_ : Int) ((at_ + 1 : Nat) : Int) = some [c]) : w_FnAlignments_l1 kj r10 r16 (N + 1) acc (at_ : Int) (x : Int) = w_FnAlignments_l1 kj r10 r16 N (acc ++ [c]) ((at_ + 1 : Nat) : Int) ((x + 1 : Nat) : Int) := by
  have hz : (x : Int) < (r16.1.length : Int) := by omega
  rw [w_FnAlignments_l1, decide_eq_true hz, cond_true]
  simp only [withK_n]
  rw [decide_eq_false (by omega : ¬ (at_ : Int) ≥ (r10.2.length : Int)), andO_false, Option.bind_some, cond_false, hs, Option.bind_some]
  rw [show ((43 : UInt8) == 43) = true from rfl, cond_true, cond_true, w64_nat at_ (by omega), w64_nat x (by omega), hc, Option.bind_some, cat_some _ _ (by unfold LIM; simp; omega), Option.bind_some]
theorem la_120 (c : UInt8) (hat : at_ < r10.2.length) (hs : idx r16.1 (x : Int) = some 120) (hc : sub r10.2 (at_ : Int) ((at_ + 1 : Nat) : Int) = some [c]) : w_FnAlignments_l1 kj r10 r16 (N + 1) acc (at_ : Int) (x : Int) = w_FnAlignments_l1 kj r10 r16 N (acc ++ [c]) ((at_ + 1 : Nat) : Int) ((x + 1 : Nat) : Int) := by
  have hz : (x : Int) < (r16.1.length : Int) := by omega
  rw [w_FnAlignments_l1, decide_eq_true hz, cond_true]
  simp only [withK_n]
  rw [decide_eq_false (by omega : ¬ (at_ : Int) ≥ (r10.2.length : Int)), andO_false, Option.bind_some, cond_false, hs, Option.bind_some]
  rw [show ((120 : UInt8) == 43) = false from rfl, cond_false, show ((120 : UInt8) == 120) = true from rfl, cond_true, w64_nat at_ (by omega), w64_nat x (by omega), hc, Option.bind_some, cat_some _ _ (by unfold LIM; simp; omega), Option.bind_some]
theorem la_61 (hat : at_ < r10.2.length) (hs : idx r16.1 (x : Int) = some 61) : w_FnAlignments_l1 kj r10 r16 (N + 1) acc (at_ : Int) (x : Int) = w_FnAlignments_l1 kj r10 r16 N acc ((at_ + 1 : Nat) : Int) ((x + 1 : Nat) : Int) := by
  have _ := hac
  have hz : (x : Int) < (r16.1.length : Int) := by omega
  rw [w_FnAlignments_l1, decide_eq_true hz, cond_true]
  simp only [withK_n]
  rw [decide_eq_false (by omega : ¬ (at_ : Int) ≥ (r10.2.length : Int)), andO_false, Option.bind_some, cond_false, hs, Option.bind_some]
  rw [show ((61 : UInt8) == 43) = false from rfl, cond_false, show ((61 : UInt8) == 120) = false from rfl, cond_false, show ((61 : UInt8) == 61) = true from rfl, cond_true, w64_nat at_ (by omega), w64_nat x (by omega)]
theorem la_126 (hat : at_ < r10.2.length) (hs : idx r16.1 (x : Int) = some 126) : w_FnAlignments_l1 kj r10 r16 (N + 1) acc (at_ : Int) (x : Int) = w_FnAlignments_l1 kj r10 r16 N acc ((at_ + 2 : Nat) : Int) ((x + 1 : Nat) : Int) := by
  have _ := hac
  have hz : (x : Int) < (r16.1.length : Int) := by omega
  rw [w_FnAlignments_l1, decide_eq_true hz, cond_true]
  simp only [withK_n]
  rw [decide_eq_false (by omega : ¬ (at_ : Int) ≥ (r10.2.length : Int)), andO_false, Option.bind_some, cond_false, hs, Option.bind_some]
  rw [show ((126 : UInt8) == 43) = false from rfl, cond_false, show ((126 : UInt8) == 120) = false from rfl, cond_false, show ((126 : UInt8) == 61) = false from rfl, cond_false, show ((126 : UInt8) == 126) = true from rfl, cond_true, w64_id (x := (at_ : Int) + 2) (by omega) (by omega), w64_nat x (by omega)]
  rfl
theorem la_45 (hat : at_ ≤ r10.2.length) (hs : idx r16.1 (x : Int) = some 45) : w_FnAlignments_l1 kj r10 r16 (N + 1) acc (at_ : Int) (x : Int) = w_FnAlignments_l1 kj r10 r16 N acc (at_ : Int) ((x + 1 : Nat) : Int) := by
  have _ := And.intro hb hac
  have hz : (x : Int) < (r16.1.length : Int) := by omega
  rw [w_FnAlignments_l1, decide_eq_true hz, cond_true]
  simp only [withK_n]
  rw [hs, Option.bind_some, show ((45 : UInt8) != 45) = false from rfl, andO_some, Bool.and_false, Option.bind_some, cond_false, Option.bind_some]
  rw [show ((45 : UInt8) == 43) = false from rfl, cond_false, show ((45 : UInt8) == 120) = false from rfl, cond_false, show ((45 : UInt8) == 61) = false from rfl, cond_false, show ((45 : UInt8) == 126) = false from rfl, cond_false, w64_nat x (by omega)]
end
theorem law_l1 (a b st : Str) (hb : b.length ≤ 60) (hl : st.length ≤ 60) (kj : Str → Option Bool) : ∀ (q x N : Nat) (at_ : Nat) (a0 acc : Str), x + q = st.length → q < N → at_ ≤ b.length → acc.length ≤ x → Al a0 (b.drop at_) (st.drop x) → w_FnAlignments_l1 kj (a, b) (st, 0) N acc (at_ : Int) (x : Int) = kj (acc ++ exT (b.drop at_) (st.drop x)) := by
  intro q
  induction q with
  | zero =>
    intro x N at_ a0 acc hx hN hat hacc h
    obtain ⟨N, rfl⟩ := pos_fuel hN
    have hz : ¬ (x : Int) < (st.length : Int) := by omega
    simp only [w_FnAlignments_l1, hz, decide_false, cond_false]
    have hS : st.drop x = [] := List.drop_eq_nil_of_le (by omega)
    rw [hS]
    simp [exT]
  | succ q ih =>
    intro x N at_ a0 acc hx hN hat hacc h
    obtain ⟨N, rfl⟩ := pos_fuel hN
    have hlt : x < st.length := by omega
    have hsx := idx_lt st x hlt
    rw [List.drop_eq_getElem_cons hlt] at h ⊢
    generalize st[x] = s at h hsx
    have hac : acc.length ≤ 100 := by omega
    have hsub : ∀ (c : UInt8) (r : Str), b.drop at_ = c :: r → sub b (at_ : Int) ((at_ + 1 : Nat) : Int) = some [c] := fun c r h => by
      obtain ⟨_, _, h3⟩ := idx_drop h
      rw [sub_some b _ _ (by omega) (by omega) (by omega)]
      rw [show ((at_ : Int)).toNat = at_ by omega, h, show (((at_ + 1 : Nat) : Int)).toNat - at_ = 1 by omega]
      rfl
    rcases h.step with ⟨rfl, y, b', e1, h'⟩ | ⟨rfl, y, a', e1, h'⟩ | ⟨rfl, y, a', b', e1, e2, h'⟩ | ⟨rfl, y, a', z, b', e1, e2, h'⟩ | ⟨rfl, y, z, a', b', e1, e2, h'⟩
    · obtain ⟨_, d1, d2⟩ := idx_drop e1
      rw [la_43 kj (a, b) (st, 0) x N at_ acc hlt hl hb hac y d2 hsx (hsub y b' e1), ih (x + 1) N (at_ + 1) a0 _ (by omega) (by omega) (by omega) (by simp; omega) (by rw [d1]; exact h'), d1, e1]
      simp [exT]
    · rw [la_45 kj (a, b) (st, 0) x N at_ acc hlt hl hb hac hat hsx, ih (x + 1) N at_ a' _ (by omega) (by omega) hat (by omega) h']
      rfl
    · obtain ⟨_, d1, d2⟩ := idx_drop e2
      rw [la_61 kj (a, b) (st, 0) x N at_ acc hlt hl hb hac d2 hsx, ih (x + 1) N (at_ + 1) a' _ (by omega) (by omega) (by omega) (by omega) (by rw [d1]; exact h'), d1, e2]
      rfl
    · obtain ⟨_, d1, d2⟩ := idx_drop e2
      rw [la_120 kj (a, b) (st, 0) x N at_ acc hlt hl hb hac z d2 hsx (hsub z b' e2), ih (x + 1) N (at_ + 1) a' _ (by omega) (by omega) (by omega) (by simp; omega) (by rw [d1]; exact h'), d1, e2]
      simp [exT]
    · obtain ⟨_, d1, d2⟩ := idx_drop e2
      obtain ⟨_, d3, d4⟩ := idx_drop d1
      rw [la_126 kj (a, b) (st, 0) x N at_ acc hlt hl hb hac d2 hsx, ih (x + 1) N (at_ + 2) a' _ (by omega) (by omega) (by omega) (by omega) (by rw [d3]; exact h'), d3, e2]
      rfl
theorem try_ok (a t0 t1 : Str) (ha : TX a) (h0 : TX t0) (h1 : TX t1) (N : Nat) (hN : 500 < N) : i_BestTry N a [t0, t1] = some ((if lev a t1 < lev a t0 then 1 else 0), 0) := by
  obtain ⟨M, rfl⟩ : ∃ M, N = M + 3 := ⟨N - 3, by omega⟩
  have i0 : idx [t0, t1] 0 = some t0 := rfl
  have i1 : idx [t0, t1] 1 = some t1 := rfl
  have w1 : w64 ((0 : Int) + 1) = 1 := rfl
  have w2 : w64 ((1 : Int) + 1) = 2 := rfl
  have l0 : decide ((0 : Int) < (([t0, t1] : List Str).length : Int)) = true := rfl
  have l1 : decide ((1 : Int) < (([t0, t1] : List Str).length : Int)) = true := rfl
  have l2 : decide ((2 : Int) < (([t0, t1] : List Str).length : Int)) = false := rfl
  have key : ∀ (t : Str) (h : TX t) (K : Nat), 400 < K → ∃ T r, i_leastFrom K a t = some T ∧ idx T 0 = some r ∧ idx r 0 = some (lev a t) := fun t h K hK => by
    obtain ⟨T, e, g1, g2⟩ := lf_ok a t ha.1 h.1 K (by omega)
    obtain ⟨r, r1, r2, _⟩ := gt_some (g2 0 0 (Nat.zero_le _) (Nat.zero_le _))
    exact ⟨T, r, e, r1, r2⟩
  obtain ⟨T0, r0, q1, q2, q3⟩ := key t0 h0 (M + 2) (by omega)
  obtain ⟨T1, r1, q4, q5, q6⟩ := key t1 h1 (M + 1) (by omega)
  have n0 := lev_nn a t0
  unfold i_BestTry
  rw [tx_ok a ha (M + 3) (by omega), Option.bind_some]
  have hlen : decide ((([t0, t1] : List Str).length : Int) > 12) = false := rfl
  simp only [Bool.not_true, orO_false, hlen, Option.bind_some, cond_false, withK_n]
  simp only [i_BestTry_l1, l0, l1, l2, i0, i1, w1, w2, cond_true, cond_false, Option.bind_some, tx_ok t0 h0 (M + 2) (by omega), tx_ok t1 h1 (M + 1) (by omega), Bool.not_true]
  simp only [i_BestTry_l2, l0, l1, l2, i0, i1, w1, w2, cond_true, cond_false, Option.bind_some, withK_eq, q1, q2, q3, q4, q5, q6, orO_some, show decide ((-1 : Int) < 0) = true from rfl, Bool.true_or, show decide ((0 : Int) < 0) = false from rfl, Bool.false_or]
  by_cases hc : lev a t1 < lev a t0
  · rw [decide_eq_true hc, if_pos hc]; rfl
  · rw [decide_eq_false hc, if_neg hc]; rfl
theorem law_FnAlignments (code more : List UInt8) (_ : wfL wfByte code) (_ : wfL wfByte more) : ∃ N, w_FnAlignments N code more = some true := by
  refine ⟨20000, ?_⟩
  obtain ⟨N, hN⟩ : ∃ N, N = 20000 := ⟨_, rfl⟩
  rw [← hN]
  unfold w_FnAlignments
  have hw : ∃ q, w_a2Long code more = some q := by
    unfold w_a2Long
    simp only [orO_some, Option.bind_some]
    exact ⟨_, rfl⟩
  obtain ⟨q, hq⟩ := hw
  rw [hq, Option.bind_some]
  cases q
  case true => rfl
  rw [cond_false]
  obtain ⟨⟨a, b⟩, e1, g1, g2, g3, g4⟩ := typed_ok code N (by omega)
  obtain ⟨⟨t0, b0⟩, e2, f1, f2, _, _⟩ := typed_ok more N (by omega)
  simp only at g1 g2 g3 g4 f1 f2
  have ha : TX a := ⟨by omega, g2⟩
  have hb : TX b := ⟨by omega, g4⟩
  have ht : TX t0 := ⟨by omega, f2⟩
  have hq : TX (b ++ [113]) := ⟨by simp; omega, CH.app g4 (.one (by decide))⟩
  obtain ⟨s1, s2, s3⟩ := alg_spec a b
  have hat : i_AlignTexts N a b = some (alg a b, 0) := by
    unfold i_AlignTexts
    rw [tx_ok a ha N (by omega), Option.bind_some, tx_ok b hb N (by omega)]
    simp only [Bool.not_true, orO_false, Option.bind_some, cond_false]
    rw [al_ok a b ha.1 hb.1 N (by omega)]; rfl
  rw [e1, Option.bind_some]
  simp only
  rw [le_ok a b ha hb N (by omega), Option.bind_some, le_ok b a hb ha N (by omega), Option.bind_some, hat, Option.bind_some, lev_comm b a]
  have hz : (lev a b == 0) = (a == b) := by
    rw [Bool.eq_iff_iff, beq_iff_eq, beq_iff_eq]
    exact ⟨lev_zero _ a b (Nat.le_refl _), fun h => by rw [h]; exact lev_self b⟩
  have hl : decide (((alg a b).length : Int) > 60) = false := decide_eq_false (by omega)
  simp only [bne_self_eq_false, hz, hl, orO_some, Bool.or_self, Option.bind_some, cond_false, withK_n]
  have e3 := fun kj => law_l1 a b (alg a b) (by omega) (by omega) kj (alg a b).length 0 N 0 a [] (by omega) (by omega) (Nat.zero_le _) (Nat.zero_le _) (by simpa using s1)
  simp only [show ((0 : Nat) : Int) = 0 from rfl, List.drop_zero, List.nil_append] at e3
  rw [e3, tf_ok a b (alg a b) ha hb (by omega) s1 N (by omega), Option.bind_some]
  simp only [bne_self_eq_false, orO_some, Bool.or_self, Option.bind_some, cond_false]
  have m1 := lev_more 113 _ a b (Nat.le_refl _)
  have m2 := lev_less 113 _ a b (Nat.le_refl _)
  have n1 := lev_nn a b
  have n2 := lev_up a b
  rw [cat_some b [113] (by unfold LIM; simp; omega), Option.bind_some, le_ok a _ ha hq N (by omega), Option.bind_some, e2, Option.bind_some, le_ok a t0 ha ht N (by omega), Option.bind_some, try_ok a t0 b ha ht hb N (by omega), Option.bind_some]
  rw [w64_id (x := lev a b - 1) (by omega) (by omega), w64_id (x := lev a b + 1) (by omega) (by omega), decide_eq_true (by omega : lev a (b ++ [113]) ≥ lev a b - 1), decide_eq_true (by omega : lev a (b ++ [113]) ≤ lev a b + 1)]
  by_cases hc : lev a b < lev a t0
  · rw [if_pos hc, decide_eq_false (by omega : ¬ lev a t0 ≤ lev a b)]; rfl
  · rw [if_neg hc, decide_eq_true (by omega : lev a t0 ≤ lev a b)]; rfl
end Go.Proofs.Ytcegcmoeimjioaa
