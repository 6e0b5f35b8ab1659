/-
  Plain lemmas on these functions. No conditions but those that each states.
-/
import Derived.Test.YtlmpbacboapkaaaFnLayoutsP5
namespace Go.Proofs.Ytlmpbacboapkaaa
set_option linter.unusedVariables false
set_option linter.unusedSimpArgs false
/-! Faults of a layout's text, and its rows. -/
theorem withK_n {A B : Type} (k : A) (b : A → B) : withK k b = b k := Eq.trans rfl rfl
def ft : Str → Str → Nat → Nat → Nat → Int × Int
  | _, [], _, long, i => if long = 0 then (1, (i : Int)) else (0, 0)
  | pre, c :: r, rows, long, i => if c = 47 then (if long = 0 ∨ rows = 4 then (1, (i : Int)) else ft (pre ++ [c]) r (rows + 1) 0 (i + 1)) else if isL [c] = false then (2, (i : Int)) else if c ∈ pre then (3, (i : Int)) else if long + 1 > 12 then (4, (i : Int)) else ft (pre ++ [c]) r rows (long + 1) (i + 1)
theorem sub1 (s : Str) (x : Nat) (h : x < s.length) : sub s (x : Int) ((x + 1 : Nat) : Int) = some [s[x]] := by
  rw [sub_some s _ _ (by omega) (by omega) (by omega), Int.toNat_natCast, Int.toNat_natCast, List.drop_eq_getElem_cons h, show x + 1 - x = 1 by omega]
  rfl
def MK (l : List Bool) (pre : Str) : Prop := l.length = 256 ∧ ∀ c : UInt8, c ≠ 47 → idx l (c.toNat : Int) = some (decide (c ∈ pre))
theorem MK.add {l : List Bool} {pre : Str} (h : MK l pre) (c : UInt8) : MK (l.set c.toNat true) (pre ++ [c]) := by
  refine ⟨by simpa using h.1, fun d hd => ?_⟩
  have hc := UInt8.toNat_lt c
  by_cases e : d = c
  · subst e
    rw [idx_nat, List.getElem?_set_self (by rw [h.1]; exact hc)]
    simp
  · rw [idx_nat, List.getElem?_set_ne (fun g => e (UInt8.toNat_inj.1 g.symm)), ← idx_nat, h.2 d hd]
    simp [e]
theorem MK.skip {l : List Bool} {pre : Str} (h : MK l pre) : MK l (pre ++ [47]) := ⟨h.1, fun d hd => by rw [h.2 d hd]; simp [hd]⟩
theorem MK.zero : MK (List.replicate 256 false) [] := ⟨List.length_replicate, fun c _ => by
  rw [idx_nat, List.getElem?_replicate, if_pos (UInt8.toNat_lt c)]; rfl⟩
theorem if_l1 (s : Str) (hs : s.length ≤ 500) : ∀ (q x N rows long : Nat) (l : List Bool), x + q = s.length → q + 1100 < N → rows ≤ 4 → long ≤ 12 → MK l (s.take x) → i_LayoutFault_l1 (fun (length3 : Int) => bif (length3 == 0) then some (1, (s.length : Int)) else some (0, 0)) s N l (rows : Int) (long : Int) (x : Int) = some (ft (s.take x) (s.drop x) rows long x) := by
  intro q
  induction q with
  | zero =>
    intro x N rows long l hx hN hr hg hm
    obtain ⟨N, rfl⟩ := pos_fuel (show 0 < N by omega)
    rw [i_LayoutFault_l1, decide_eq_false (by omega : ¬ (x : Int) < (s.length : Int)), cond_false, List.drop_eq_nil_of_le (by omega), ft]
    by_cases h0 : long = 0
    · subst h0
      rw [if_pos rfl, show x = s.length by omega]; rfl
    · rw [if_neg h0]
      have : ((long : Int) == 0) = false := by rw [beq_eq_false_iff_ne]; omega
      show (bif ((long : Int) == 0) then _ else _) = _
      rw [this]; rfl
  | succ q ih =>
    intro x N rows long l hx hN hr hg hm
    obtain ⟨N, rfl⟩ := pos_fuel (show 0 < N by omega)
    have hlt : x < s.length := by omega
    have htk : s.take (x + 1) = s.take x ++ [s[x]] := List.take_succ_eq_append_getElem hlt
    rw [i_LayoutFault_l1, decide_eq_true (by omega : (x : Int) < (s.length : Int)), cond_true]
    simp only [withK_n]
    rw [idx_lt s x hlt, Option.bind_some, w64_nat x (by omega), w64_nat rows (by omega), w64_nat long (by omega), sub1 s x hlt, List.drop_eq_getElem_cons hlt, ft]
    by_cases hc : s[x] = 47
    · rw [beq_iff_eq.2 hc, cond_true, if_pos hc, orO_some, Option.bind_some]
      have e1 : (((long : Int) == 0) || ((rows : Int) == 4)) = decide (long = 0 ∨ rows = 4) := by
        rw [Bool.eq_iff_iff, Bool.or_eq_true, beq_iff_eq, beq_iff_eq, decide_eq_true_eq]; omega
      rw [e1]
      by_cases h2 : long = 0 ∨ rows = 4
      · rw [decide_eq_true h2, cond_true, if_pos h2]
      · rw [decide_eq_false h2, cond_false, if_neg h2, ← htk]
        have := ih (x + 1) N (rows + 1) 0 l (by omega) (by omega) (by omega) (by omega) (by rw [htk, hc]; exact hm.skip)
        exact this
    · rw [beq_eq_false_iff_ne.2 hc, cond_false, if_neg hc, Option.bind_some, i_letter [s[x]] N (by omega), Option.bind_some]
      cases hl : isL [s[x]] with
      | false => rw [Bool.not_false, cond_true, if_pos rfl]
      | true =>
        rw [Bool.not_true, cond_false, if_neg (by decide), hm.2 _ hc, Option.bind_some]
        by_cases hp : s[x] ∈ s.take x
        · rw [decide_eq_true hp, cond_true, if_pos hp]
        · rw [decide_eq_false hp, cond_false, if_neg hp]
          by_cases h12 : long + 1 > 12
          · rw [decide_eq_true (by omega), cond_true, if_pos h12]
          · rw [decide_eq_false (by omega), cond_false, if_neg h12, Option.bind_some, Int.toNat_natCast, ← htk]
            exact ih (x + 1) N rows (long + 1) _ (by omega) (by omega) hr (by omega) (by rw [htk]; exact hm.add _)
theorem sf_l2 (s : Str) (i : Nat) (hi : i < s.length) (hs : s.length ≤ 500) (kj : Option (Int × Int)) : ∀ (q k N : Nat), k + q = i → q < N → s_l06Fault_l2 kj s (i : Int) N (k : Int) = if s[i] ∈ (s.take i).drop k then some (3, (i : Int)) else kj := by
  intro q
  induction q with
  | zero =>
    intro k N hk hN
    obtain ⟨N, rfl⟩ := pos_fuel hN
    rw [s_l06Fault_l2, decide_eq_false (by omega), cond_false, List.drop_eq_nil_of_le (by rw [List.length_take]; omega), if_neg (by simp)]
  | succ q ih =>
    intro k N hk hN
    obtain ⟨N, rfl⟩ := pos_fuel hN
    have hkl : k < (s.take i).length := by rw [List.length_take]; omega
    have hg : (s.take i)[k] = s[k]'(by omega) := List.getElem_take ..
    rw [s_l06Fault_l2, decide_eq_true (by omega), cond_true, idx_lt s k (by omega), Option.bind_some, idx_lt s i hi, Option.bind_some, w64_nat k (by omega), ih (k + 1) N (by omega) (by omega), List.drop_eq_getElem_cons hkl, hg]
    by_cases h : s[k]'(by omega) = s[i]
    · rw [beq_iff_eq.2 h, cond_true, if_pos (by rw [h]; exact List.mem_cons_self)]
    · rw [beq_eq_false_iff_ne.2 h, cond_false]
      have : (s[i] ∈ s[k]'(by omega) :: (s.take i).drop (k + 1)) ↔ s[i] ∈ (s.take i).drop (k + 1) := by
        rw [List.mem_cons]
        exact ⟨fun g => g.resolve_left fun e => h e.symm, .inr⟩
      simp only [this]
theorem sf_l1 (s : Str) (hs : s.length ≤ 500) : ∀ (q x N rows long : Nat), x + q = s.length → q + 1100 < N → rows ≤ 4 → long ≤ 12 → s_l06Fault_l1 (fun (long2 : Int) => bif (long2 == 0) then some (1, (s.length : Int)) else some (0, 0)) s N (rows : Int) (long : Int) (x : Int) = some (ft (s.take x) (s.drop x) rows long x) := by
  intro q
  induction q with
  | zero =>
    intro x N rows long hx hN hr hg
    obtain ⟨N, rfl⟩ := pos_fuel (show 0 < N by omega)
    rw [s_l06Fault_l1, decide_eq_false (by omega : ¬ (x : Int) < (s.length : Int)), cond_false, List.drop_eq_nil_of_le (by omega), ft]
    by_cases h0 : long = 0
    · subst h0
      rw [if_pos rfl, show x = s.length by omega]; rfl
    · rw [if_neg h0]
      have : ((long : Int) == 0) = false := by rw [beq_eq_false_iff_ne]; omega
      show (bif ((long : Int) == 0) then _ else _) = _
      rw [this]; rfl
  | succ q ih =>
    intro x N rows long hx hN hr hg
    obtain ⟨N, rfl⟩ := pos_fuel (show 0 < N by omega)
    have hlt : x < s.length := by omega
    have htk : s.take (x + 1) = s.take x ++ [s[x]] := List.take_succ_eq_append_getElem hlt
    rw [s_l06Fault_l1, decide_eq_true (by omega : (x : Int) < (s.length : Int)), cond_true]
    simp only [withK_n]
    rw [idx_lt s x hlt, Option.bind_some, w64_nat x (by omega), w64_nat rows (by omega), w64_nat long (by omega), sub1 s x hlt, List.drop_eq_getElem_cons hlt, ft]
    by_cases hc : s[x] = 47
    · rw [beq_iff_eq.2 hc, cond_true, if_pos hc, orO_some, Option.bind_some]
      have e1 : (((long : Int) == 0) || decide (((rows + 1 : Nat) : Int) > 4)) = decide (long = 0 ∨ rows = 4) := by
        rw [Bool.eq_iff_iff, Bool.or_eq_true, beq_iff_eq, decide_eq_true_eq, decide_eq_true_eq]; omega
      rw [e1]
      by_cases h2 : long = 0 ∨ rows = 4
      · rw [decide_eq_true h2, cond_true, if_pos h2]
      · rw [decide_eq_false h2, cond_false, if_neg h2, ← htk]
        have := ih (x + 1) N (rows + 1) 0 (by omega) (by omega) (by omega) (by omega)
        exact this
    · have hl2 := fun kj => sf_l2 s x hlt hs kj x 0 N (by omega) (by omega)
      rw [show ((0 : Nat) : Int) = 0 from rfl] at hl2
      rw [beq_eq_false_iff_ne.2 hc, cond_false, if_neg hc, Option.bind_some, s_letter, Option.bind_some, hl2, List.drop_zero]
      cases hl : isL [s[x]] with
      | false => rw [Bool.not_false, cond_true, if_pos rfl]
      | true =>
        rw [Bool.not_true, cond_false, if_neg (show ¬ (true = false) by decide)]
        by_cases hp : s[x] ∈ s.take x
        · rw [if_pos hp, if_pos hp]
        · rw [if_neg hp, if_neg hp]
          by_cases h12 : long + 1 > 12
          · rw [decide_eq_true (by omega), cond_true, if_pos h12]
          · rw [decide_eq_false (by omega), cond_false, if_neg h12, ← htk]
            exact ih (x + 1) N rows (long + 1) (by omega) (by omega) hr (by omega)
def FT (s : Str) : Int × Int := ft [] s 1 0 0
theorem fault_ok (s : Str) (hs : s.length ≤ 500) (N : Nat) (hN : 2000 < N) : i_LayoutFault N s = some (FT s) ∧ s_l06Fault N s = some (FT s) := by
  constructor
  · unfold i_LayoutFault
    rw [withK_n]
    exact if_l1 s hs s.length 0 N 1 0 _ (by omega) (by omega) (by omega) (by omega) MK.zero
  · unfold s_l06Fault
    rw [withK_n]
    exact sf_l1 s hs s.length 0 N 1 0 (by omega) (by omega) (by omega) (by omega)
theorem ft_rng : ∀ (r pre : Str) (rows long i : Nat), 0 ≤ (ft pre r rows long i).2 ∧ (ft pre r rows long i).2 ≤ ((i + r.length : Nat) : Int)
  | [], pre, rows, long, i => by
    simp only [ft]; split <;> simp
  | c :: r, pre, rows, long, i => by
    have h1 := ft_rng r (pre ++ [c]) (rows + 1) 0 (i + 1)
    have h2 := ft_rng r (pre ++ [c]) rows (long + 1) (i + 1)
    simp only [ft, List.length_cons]
    split
    · split
      · simp; omega
      · omega
    · split
      · simp; omega
      · split
        · simp; omega
        · split
          · simp; omega
          · omega
def spl : Str → Str → List Str
  | [], cur => [cur]
  | c :: r, cur => if c = 47 then cur :: spl r [] else spl r (cur ++ [c])
theorem spl_ne : ∀ (r cur : Str), ∃ y ys, spl r cur = y :: ys
  | [], cur => ⟨cur, [], rfl⟩
  | c :: r, cur => by
    simp only [spl]
    split
    · exact ⟨cur, _, rfl⟩
    · exact spl_ne r _
theorem spl_join : ∀ (r cur : Str), Lib.join (spl r cur) [47] = cur ++ r
  | [], cur => by rw [spl, Lib.join_one, List.append_nil]
  | c :: r, cur => by
    simp only [spl]
    split
    · rename_i hc
      have ih := spl_join r []
      obtain ⟨y, ys, e⟩ := spl_ne r []
      rw [e] at ih ⊢
      rw [Lib.join_cons] at ih ⊢
      rw [List.nil_append] at ih
      rw [hc, ← ih]
      simp [Lib.joinTail]
    · rw [spl_join r (cur ++ [c])]; simp
theorem tk_cur (s : Str) {st x : Nat} (h : st ≤ x) (hx : x < s.length) : (s.drop st).take (x + 1 - st) = (s.drop st).take (x - st) ++ [s[x]] := by
  have hl0 : x - st < (s.drop st).length := by rw [List.length_drop]; omega
  rw [show x + 1 - st = (x - st) + 1 by omega, List.take_succ_eq_append_getElem hl0]
  congr 2
  rw [List.getElem_drop]
  congr 1; omega
theorem ir_l1 (s : Str) (hs : s.length ≤ 500) (R : List Str) (kj : List Str → Int → Option (Layout × Bool)) (Q : Option (Layout × Bool) → Prop) (k1 : ∀ (acc : List Str) (st : Nat), st ≤ s.length → acc.length ≤ s.length → acc ++ [s.drop st] = R → Q (kj acc (st : Int))) : ∀ (q x N st : Nat) (acc : List Str), x + q = s.length → q < N → st ≤ x → acc.length ≤ x → acc ++ spl (s.drop x) ((s.drop st).take (x - st)) = R → Q (i_ReadLayout_l1 kj s N acc (st : Int) (x : Int)) := by
  intro q
  induction q with
  | zero =>
    intro x N st acc hx hN hst ha h
    obtain ⟨N, rfl⟩ := pos_fuel hN
    rw [i_ReadLayout_l1, decide_eq_false (by omega : ¬ (x : Int) < (s.length : Int)), cond_false]
    rw [List.drop_eq_nil_of_le (show s.length ≤ x by omega), spl, List.take_of_length_le (by rw [List.length_drop]; omega)] at h
    exact k1 acc st (by omega) (by omega) h
  | succ q ih =>
    intro x N st acc hx hN hst ha h
    obtain ⟨N, rfl⟩ := pos_fuel hN
    have hlt : x < s.length := by omega
    have hsub : sub s (st : Int) (x : Int) = some ((s.drop st).take (x - st)) := by
      rw [sub_some s _ _ (by omega) (by omega) (by omega), Int.toNat_natCast, Int.toNat_natCast]
    rw [i_ReadLayout_l1, decide_eq_true (by omega : (x : Int) < (s.length : Int)), cond_true]
    simp only [withK_n]
    rw [idx_lt s x hlt, Option.bind_some, hsub, w64_nat x (by omega)]
    rw [List.drop_eq_getElem_cons hlt, spl] at h
    by_cases hc : s[x] = 47
    · rw [if_pos hc] at h
      rw [beq_iff_eq.2 hc, cond_true, Option.bind_some, app_some _ _ (by unfold LIM; simp; omega), Option.bind_some]
      refine ih (x + 1) N (x + 1) _ (by omega) (by omega) (Nat.le_refl _) (by simp; omega) ?_
      rw [← h, Nat.sub_self]; simp
    · rw [if_neg hc] at h
      rw [beq_eq_false_iff_ne.2 hc, cond_false]
      refine ih (x + 1) N st acc (by omega) (by omega) (by omega) (by omega) ?_
      rw [tk_cur s hst hlt]; exact h
theorem ss_l1 (s : Str) (hs : s.length ≤ 500) (R : List Str) (kj : List Str → Int → Option (List Str)) (Q : Option (List Str) → Prop) (k1 : ∀ (acc : List Str) (st : Nat), st ≤ s.length → acc.length ≤ s.length → acc ++ [s.drop st] = R → Q (kj acc (st : Int))) : ∀ (q x N st : Nat) (acc : List Str), x + q = s.length → q < N → st ≤ x → acc.length ≤ x → acc ++ spl (s.drop x) ((s.drop st).take (x - st)) = R → Q (s_l01Split_l1 kj s 47 N acc (st : Int) (x : Int)) := by
  intro q
  induction q with
  | zero =>
    intro x N st acc hx hN hst ha h
    obtain ⟨N, rfl⟩ := pos_fuel hN
    rw [s_l01Split_l1, decide_eq_false (by omega : ¬ (x : Int) < (s.length : Int)), cond_false]
    rw [List.drop_eq_nil_of_le (show s.length ≤ x by omega), spl, List.take_of_length_le (by rw [List.length_drop]; omega)] at h
    exact k1 acc st (by omega) (by omega) h
  | succ q ih =>
    intro x N st acc hx hN hst ha h
    obtain ⟨N, rfl⟩ := pos_fuel hN
    have hlt : x < s.length := by omega
    have hsub : sub s (st : Int) (x : Int) = some ((s.drop st).take (x - st)) := by
      rw [sub_some s _ _ (by omega) (by omega) (by omega), Int.toNat_natCast, Int.toNat_natCast]
    rw [s_l01Split_l1, decide_eq_true (by omega : (x : Int) < (s.length : Int)), cond_true]
    simp only [withK_n]
    rw [idx_lt s x hlt, Option.bind_some, hsub, w64_nat x (by omega)]
    rw [List.drop_eq_getElem_cons hlt, spl] at h
    by_cases hc : s[x] = 47
    · rw [if_pos hc] at h
      rw [beq_iff_eq.2 hc, cond_true, Option.bind_some, app_some _ _ (by unfold LIM; simp; omega), Option.bind_some]
      refine ih (x + 1) N (x + 1) _ (by omega) (by omega) (Nat.le_refl _) (by simp; omega) ?_
      rw [← h, Nat.sub_self]; simp
    · rw [if_neg hc] at h
      rw [beq_eq_false_iff_ne.2 hc, cond_false]
      refine ih (x + 1) N st acc (by omega) (by omega) (by omega) (by omega) ?_
      rw [tk_cur s hst hlt]; exact h
theorem read_ok (s : Str) (hs : s.length ≤ 500) (N : Nat) (hN : 2000 < N) : ∃ r, i_ReadLayout N s = some r ∧ s_ReadLayout N s = some r ∧ r = (bif ((FT s).1 != 0) then (Layout.mk [], false) else (Layout.mk (spl s []), true)) := by
  obtain ⟨f1, f2⟩ := fault_ok s hs N hN
  have hsub : ∀ st : Nat, st ≤ s.length → sub s (st : Int) (s.length : Int) = some (s.drop st) := fun st h => by
    rw [sub_some s _ _ (by omega) (by omega) (by omega), Int.toNat_natCast, Int.toNat_natCast, List.take_of_length_le (by rw [List.length_drop]; omega)]
  refine ⟨_, ?_, ?_, rfl⟩
  · unfold i_ReadLayout
    rw [f1, Option.bind_some]
    cases ((FT s).1 != 0) with
    | true => rfl
    | false =>
      rw [cond_false, cond_false, withK_n]
      refine ir_l1 s hs (spl s []) _ (fun o => o = some (Layout.mk (spl s []), true)) (fun acc st h1 h2 h3 => ?_) s.length 0 N 0 [] (by omega) (by omega) (Nat.le_refl _) (Nat.le_refl _) (by simp)
      rw [hsub st h1, Option.bind_some, app_some _ _ (by unfold LIM; simp; omega), Option.bind_some, h3]
  · unfold s_ReadLayout
    rw [f2, Option.bind_some]
    cases ((FT s).1 != 0) with
    | true => rfl
    | false =>
      have e : s_l01Split N s 47 = some (spl s []) := by
        unfold s_l01Split
        rw [withK_n]
        refine ss_l1 s hs (spl s []) _ (fun o => o = some (spl s [])) (fun acc st h1 h2 h3 => ?_) s.length 0 N 0 [] (by omega) (by omega) (Nat.le_refl _) (Nat.le_refl _) (by simp)
        rw [hsub st h1, Option.bind_some, app_some _ _ (by unfold LIM; simp; omega), Option.bind_some, h3]
      rw [cond_false, cond_false, e, Option.bind_some]
end Go.Proofs.Ytlmpbacboapkaaa
