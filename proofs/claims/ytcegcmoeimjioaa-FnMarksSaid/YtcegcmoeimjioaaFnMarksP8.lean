/-
  Plain lemmas on these functions. No conditions but those that each states.
-/
import Derived.Test.YtcegcmoeimjioaaFnMarksP7
namespace Go.Proofs.Ytcegcmoeimjioaa
set_option linter.unusedVariables false
set_option linter.unusedSimpArgs false
section
variable {β : Type} (a b : Str) (i k : Nat) (hi : i ≤ a.length) (hk : k ≤ b.length) (T : List (List Int)) (hT : ∀ i, i ≤ a.length → ∃ r, idx T (i : Int) = some r ∧ Row a b i r)
include hi hk hT
theorem look (F : Int → Option β) : ((idx T (i : Int)).bind fun e => (idx e (k : Int)).bind fun v => F v) = F (lev (a.drop i) (b.drop k)) := by
  obtain ⟨r, r1, r2⟩ := hT i hi
  rw [r1, Option.bind_some, r2.2 k hk, Option.bind_some]
end
def tg (a b : Str) (s : UInt8) : Bool := match stp a b s with
  | some (di, dk, e) => lev (a.drop di) (b.drop dk) + e == lev a b
  | none => false
theorem tg_none {a b : Str} {s : UInt8} (h : (stp a b s).isSome = false) : tg a b s = false := by
  unfold tg
  cases hs : stp a b s with
  | none => rfl
  | some v => rw [hs] at h; cases h
theorem tg_some {a b : Str} {s : UInt8} {di dk : Nat} {e : Int} (h : stp a b s = some (di, dk, e)) : tg a b s = (lev (a.drop di) (b.drop dk) + e == lev a b) := by
  unfold tg
  rw [h]
theorem fst1_cons (a b : Str) (s : UInt8) (l : List UInt8) : fst1 a b (s :: l) = if tg a b s = true then (match stp a b s with
    | some (di, dk, _) => some (s, di, dk)
    | none => none) else fst1 a b l := by
  rw [fst1]
  cases hs : stp a b s with
  | none => rw [tg_none (by rw [hs]; rfl)]; rfl
  | some v =>
    obtain ⟨di, dk, e⟩ := v
    rw [tg_some hs]
    simp only
    by_cases hc : lev (a.drop di) (b.drop dk) + e = lev a b
    · rw [if_pos hc, if_pos (beq_iff_eq.2 hc)]
    · rw [if_neg hc, if_neg (fun h => hc (beq_iff_eq.1 h))]
theorem tg_ex {a b : Str} (h : a ≠ [] ∨ b ≠ []) (h1 : tg a b 43 = false) (h2 : tg a b 45 = false) (h3 : tg a b 61 = false) (h4 : tg a b 120 = false) : tg a b 126 = true := by
  obtain ⟨s, hs, di, dk, e, q2, q3⟩ := lev_ex h
  have ht : tg a b s = true := by rw [tg_some q2, beq_iff_eq, q3]
  simp only [Sx, List.mem_cons, List.not_mem_nil, or_false] at hs
  rcases hs with rfl | rfl | rfl | rfl | rfl
  · rw [ht] at h1; cases h1
  · rw [ht] at h2; cases h2
  · rw [ht] at h3; cases h3
  · rw [ht] at h4; cases h4
  · exact ht
theorem tg_is {a b : Str} {s : UInt8} (h : tg a b s = true) : (stp a b s).isSome = true := by
  cases hs : (stp a b s).isSome with
  | true => rfl
  | false => rw [tg_none hs] at h; cases h
section
variable {β : Type} (a b : Str) (ha : a.length ≤ 60) (hb : b.length ≤ 60) (i k : Nat) (hi : i ≤ a.length) (hk : k ≤ b.length) (T : List (List Int)) (hT : ∀ i, i ≤ a.length → ∃ r, idx T (i : Int) = some r ∧ Row a b i r)
include ha hb hi hk hT
theorem t_plus : (andO (decide ((k : Int) < (b.length : Int))) ((idx T (i : Int)).bind fun e31 => (idx e31 ((k + 1 : Nat) : Int)).bind fun e35 => some ((w64 (e35 + 1)) == lev (a.drop i) (b.drop k)))) = some (tg (a.drop i) (b.drop k) 43) := by
  rw [c_plus a b i k hi hk]
  cases hs : (stp (a.drop i) (b.drop k) 43).isSome with
  | false => rw [tg_none hs]; rfl
  | true =>
    have h1 := stp43 hs
    have hd := stp_dec h1
    rw [List.length_drop, List.length_drop] at hd
    have hb2 := lev_b a b ha hb i (k + 1)
    rw [andO_true, look a b i (k + 1) hi (by omega) T hT, tg_some h1, List.drop_zero, List.drop_drop, w64_id (by omega) (by omega)]
theorem t_minus : (andO (decide ((i : Int) < (a.length : Int))) ((idx T ((i + 1 : Nat) : Int)).bind fun e31 => (idx e31 (k : Int)).bind fun e35 => some ((w64 (e35 + 1)) == lev (a.drop i) (b.drop k)))) = some (tg (a.drop i) (b.drop k) 45) := by
  rw [c_minus a b i k hi hk]
  cases hs : (stp (a.drop i) (b.drop k) 45).isSome with
  | false => rw [tg_none hs]; rfl
  | true =>
    have h1 := stp45 hs
    have hd := stp_dec h1
    rw [List.length_drop, List.length_drop] at hd
    have hb2 := lev_b a b ha hb (i + 1) k
    rw [andO_true, look a b (i + 1) k (by omega) hk T hT, tg_some h1, List.drop_zero, List.drop_drop, w64_id (by omega) (by omega)]
theorem t_eq (F : Bool → Option β) : ((andO (decide ((i : Int) < (a.length : Int))) (some (decide ((k : Int) < (b.length : Int))))).bind fun t37 => (andO t37 ((idx a (i : Int)).bind fun c43 => (idx b (k : Int)).bind fun c45 => some (c43 == c45))).bind fun t40 =>
    (andO t40 ((idx T ((i + 1 : Nat) : Int)).bind fun e71 => (idx e71 ((k + 1 : Nat) : Int)).bind fun e75 => some (e75 == lev (a.drop i) (b.drop k)))).bind fun t68 => F t68) = F (tg (a.drop i) (b.drop k) 61) := by
  have _ := And.intro ha hb
  rw [c_eq a b i k hi hk (fun t40 => (andO t40 ((idx T ((i + 1 : Nat) : Int)).bind fun e71 => (idx e71 ((k + 1 : Nat) : Int)).bind fun e75 => some (e75 == lev (a.drop i) (b.drop k)))).bind fun t68 => F t68)]
  cases hs : (stp (a.drop i) (b.drop k) 61).isSome with
  | false => rw [tg_none hs]; rfl
  | true =>
    have h1 := stp61 hs
    have hd := stp_dec h1
    rw [List.length_drop, List.length_drop] at hd
    simp only [andO_true]
    rw [look a b (i + 1) (k + 1) (by omega) (by omega) T hT, tg_some h1, List.drop_drop, List.drop_drop, Int.add_zero, Option.bind_some]
theorem t_x (F : Bool → Option β) : ((andO (decide ((i : Int) < (a.length : Int))) (some (decide ((k : Int) < (b.length : Int))))).bind fun t37 => (andO t37 ((idx a (i : Int)).bind fun c43 => (idx b (k : Int)).bind fun c45 => some (c43 != c45))).bind fun t40 =>
    (andO t40 ((idx T ((i + 1 : Nat) : Int)).bind fun e71 => (idx e71 ((k + 1 : Nat) : Int)).bind fun e75 => some (w64 (e75 + 1) == lev (a.drop i) (b.drop k)))).bind fun t68 => F t68) = F (tg (a.drop i) (b.drop k) 120) := by
  rw [c_ne a b i k hi hk (fun t40 => (andO t40 ((idx T ((i + 1 : Nat) : Int)).bind fun e71 => (idx e71 ((k + 1 : Nat) : Int)).bind fun e75 => some (w64 (e75 + 1) == lev (a.drop i) (b.drop k)))).bind fun t68 => F t68)]
  cases hs : (stp (a.drop i) (b.drop k) 120).isSome with
  | false => rw [tg_none hs]; rfl
  | true =>
    have h1 := stp120 hs
    have hd := stp_dec h1
    rw [List.length_drop, List.length_drop] at hd
    have hb2 := lev_b a b ha hb (i + 1) (k + 1)
    simp only [andO_true]
    rw [look a b (i + 1) (k + 1) (by omega) (by omega) T hT, tg_some h1, List.drop_drop, List.drop_drop, w64_id (by omega) (by omega), Option.bind_some]
end
theorem sa_l1 (a b : Str) (ha : a.length ≤ 60) (hb : b.length ≤ 60) (T : List (List Int)) (hT : ∀ i, i ≤ a.length → ∃ r, idx T (i : Int) = some r ∧ Row a b i r) (kj : List UInt8 → Option Str) :
    ∀ (q N i k : Nat) (acc : Str), i ≤ a.length → k ≤ b.length → a.length - i + (b.length - k) ≤ q → q < N → acc.length + q ≤ 200 → s_l19Align_l1 kj a b T N acc (i : Int) (k : Int) = kj (acc ++ algF q (a.drop i) (b.drop k)) := by
  intro q
  induction q with
  | zero =>
    intro N i k acc hi hk hq hN hacc
    obtain ⟨N, rfl⟩ := pos_fuel (show 0 < N by omega)
    rw [s_l19Align_l1, decide_eq_false (by omega : ¬ (i : Int) < (a.length : Int)), decide_eq_false (by omega : ¬ (k : Int) < (b.length : Int)), orO_false, Option.bind_some, cond_false]
    simp [algF]
  | succ q ih =>
    intro N i k acc hi hk hq hN hacc
    obtain ⟨N, rfl⟩ := pos_fuel (show 0 < N by omega)
    rw [s_l19Align_l1, orO_some, Option.bind_some]
    by_cases he : i < a.length ∨ k < b.length
    · have : (decide ((i : Int) < (a.length : Int)) || decide ((k : Int) < (b.length : Int))) = true := by
        rw [Bool.or_eq_true]; exact he.imp (fun h => decide_eq_true (by omega)) (fun h => decide_eq_true (by omega))
      rw [this, cond_true]
      have hne : a.drop i ≠ [] ∨ b.drop k ≠ [] := he.imp (fun h e => by have := congrArg List.length e; rw [List.length_drop] at this; simp at this; omega) (fun h e => by have := congrArg List.length e; rw [List.length_drop] at this; simp at this; omega)
      have w1 : w64 ((i : Int) + 1) = ((i + 1 : Nat) : Int) := w64_nat i (by omega)
      have w2 : w64 ((k : Int) + 1) = ((k + 1 : Nat) : Int) := w64_nat k (by omega)
      have w3 : w64 ((i : Int) + 2) = ((i + 2 : Nat) : Int) := by rw [w64_id (by omega) (by omega)]; omega
      have w4 : w64 ((k : Int) + 2) = ((k + 2 : Nat) : Int) := by rw [w64_id (by omega) (by omega)]; omega
      have key : ∀ (s : UInt8) (di dk : Nat) (e : Int), stp (a.drop i) (b.drop k) s = some (di, dk, e) → fst1 (a.drop i) (b.drop k) Sx = some (s, di, dk) → s_l19Align_l1 kj a b T N (acc ++ [s]) ((i + di : Nat) : Int) ((k + dk : Nat) : Int) = kj (acc ++ algF (q + 1) (a.drop i) (b.drop k)) := by
        intro s di dk e hst hf
        have hd := stp_dec hst
        rw [List.length_drop, List.length_drop] at hd
        rw [ih N (i + di) (k + dk) _ (by omega) (by omega) (by omega) (by omega) (by simp; omega)]
        simp only [algF, hf, List.drop_drop, List.append_assoc, List.singleton_append]
      have ap : ∀ s : UInt8, app acc [s] = some (acc ++ [s]) := fun s => app_some _ _ (by unfold LIM; simp; omega)
      have hfx : fst1 (a.drop i) (b.drop k) Sx = fst1 (a.drop i) (b.drop k) (43 :: 45 :: 61 :: 120 :: 126 :: []) := rfl
      rw [w1, w2, w3, w4, look a b i k hi hk T hT, t_plus a b ha hb i k hi hk T hT, Option.bind_some]
      cases t1 : tg (a.drop i) (b.drop k) 43 with
      | true =>
        rw [cond_true, ap, Option.bind_some]
        have h1 := stp43 (tg_is t1)
        exact key 43 0 1 1 h1 (by rw [hfx, fst1_cons, if_pos t1, h1])
      | false =>
      rw [cond_false, t_minus a b ha hb i k hi hk T hT, Option.bind_some]
      cases t2 : tg (a.drop i) (b.drop k) 45 with
      | true =>
        rw [cond_true, ap, Option.bind_some]
        have h1 := stp45 (tg_is t2)
        exact key 45 1 0 1 h1 (by rw [hfx, fst1_cons, if_neg (by rw [t1]; decide), fst1_cons, if_pos t2, h1])
      | false =>
      rw [cond_false, t_eq a b ha hb i k hi hk T hT]
      cases t3 : tg (a.drop i) (b.drop k) 61 with
      | true =>
        rw [cond_true, ap, Option.bind_some]
        have h1 := stp61 (tg_is t3)
        exact key 61 1 1 0 h1 (by rw [hfx, fst1_cons, if_neg (by rw [t1]; decide), fst1_cons, if_neg (by rw [t2]; decide), fst1_cons, if_pos t3, h1])
      | false =>
      rw [cond_false, t_x a b ha hb i k hi hk T hT]
      cases t4 : tg (a.drop i) (b.drop k) 120 with
      | true =>
        rw [cond_true, ap, Option.bind_some]
        have h1 := stp120 (tg_is t4)
        exact key 120 1 1 1 h1 (by rw [hfx, fst1_cons, if_neg (by rw [t1]; decide), fst1_cons, if_neg (by rw [t2]; decide), fst1_cons, if_neg (by rw [t3]; decide), fst1_cons, if_pos t4, h1])
      | false =>
      have t5 := tg_ex hne t1 t2 t3 t4
      rw [cond_false, ap, Option.bind_some]
      have h1 := stp126 (tg_is t5)
      exact key 126 2 2 1 h1 (by rw [hfx, fst1_cons, if_neg (by rw [t1]; decide), fst1_cons, if_neg (by rw [t2]; decide), fst1_cons, if_neg (by rw [t3]; decide), fst1_cons, if_neg (by rw [t4]; decide), fst1_cons, if_pos t5, h1])
    · have h1 : ¬ i < a.length := fun h => he (.inl h)
      have h2 : ¬ k < b.length := fun h => he (.inr h)
      rw [decide_eq_false (by omega : ¬ (i : Int) < (a.length : Int)), decide_eq_false (by omega : ¬ (k : Int) < (b.length : Int)), Bool.or_self, cond_false]
      rw [List.drop_eq_nil_of_le (by omega), List.drop_eq_nil_of_le (by omega)]
      simp [algF, show fst1 [] [] Sx = none from rfl]
theorem st_l1 (s : Str) (hc : TX s) (kj : Option Bool) : ∀ (n i N : Nat), i + n = s.length → n < N → s_l00Text_l1 kj s N (i : Int) = kj := by
  have hl := hc.1
  intro n
  induction n with
  | zero =>
    intro i N hi hN
    obtain ⟨N, rfl⟩ := pos_fuel hN
    have hz : ¬ (i : Int) < (s.length : Int) := by omega
    rw [s_l00Text_l1, decide_eq_false hz, cond_false]
  | succ n ih =>
    intro i N hi hN
    obtain ⟨N, rfl⟩ := pos_fuel hN
    have hz : (i : Int) < (s.length : Int) := by omega
    have hlt : i < s.length := by omega
    have hci := hc.2 _ (List.getElem_mem hlt)
    have d1 : decide (s[i] < (32 : UInt8)) = false := decide_eq_false (by rw [UInt8.lt_iff_toNat_lt]; show ¬ s[i].toNat < 32; omega)
    have d2 : decide (s[i] > (126 : UInt8)) = false := decide_eq_false (by show ¬ (126 : UInt8) < s[i]; rw [UInt8.lt_iff_toNat_lt]; show ¬ 126 < s[i].toNat; omega)
    rw [s_l00Text_l1, decide_eq_true hz, cond_true, idx_lt s i hlt, Option.bind_some, d1, orO_false, Option.bind_some, d2, Option.bind_some, cond_false, w64_nat i (by omega)]
    exact ih (i + 1) N (by omega) (by omega)
theorem st_ok (s : Str) (hc : TX s) (N : Nat) (hN : 100 < N) : s_l19Text N s = some true := by
  have hl := hc.1
  unfold s_l19Text s_l00Text
  rw [withK_n]
  have := st_l1 s hc (some (decide ((s.length : Int) ≤ 60))) s.length 0 N (by omega) (by omega)
  rw [show ((0 : Nat) : Int) = 0 from rfl] at this
  rw [this, decide_eq_true (by omega : (s.length : Int) ≤ 60)]; rfl
theorem sal_ok (a b : Str) (ha : TX a) (hb : TX b) (N : Nat) (hN : 400 < N) : s_AlignTexts N a b = some (alg a b, 0) := by
  unfold s_AlignTexts s_l19Two
  rw [st_ok a ha N (by omega), Option.bind_some, st_ok b hb N (by omega), Option.bind_some, Bool.not_true, orO_false, Option.bind_some, cond_false, Option.bind_some]
  rw [show ((0 : Int) != 0) = false from rfl, cond_false]
  unfold s_l19Align
  obtain ⟨T, e, hT⟩ := sc_ok a b ha.1 hb.1 N (by omega)
  rw [e, Option.bind_some, withK_n]
  have := sa_l1 a b ha.1 hb.1 T hT (fun l => some l) (a.length + b.length) N 0 0 [] (Nat.zero_le _) (Nat.zero_le _) (by omega) (by have := ha.1; have := hb.1; omega) (by have := ha.1; have := hb.1; simp; omega)
  rw [show ((0 : Nat) : Int) = 0 from rfl] at this
  rw [this]
  rfl
end Go.Proofs.Ytcegcmoeimjioaa
